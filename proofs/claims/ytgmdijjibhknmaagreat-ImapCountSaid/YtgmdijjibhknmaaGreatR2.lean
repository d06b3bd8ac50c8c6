/- Common texts: values, words, what they answer; no statement of the seat. -/
import Derived.Test.YtgmdijjibhknmaaGreatR1
import Derived.Maps.RangeRun
import Derived.Lib.UnsafeStr
import Derived.Test.YtgmdijjibhknmaaGreatR0
import Derived.LoopN
import Derived.Lib.Bytealg
import Derived.Room.MakeNoZero
import Derived.Carry
import Derived.ChangeMaps5
import Derived.OpenShut
set_option linter.unusedVariables false
set_option linter.unusedSimpArgs false
set_option linter.unusedSectionVars false
/- Closed runs: maps that are written. -/
namespace Go.Rx

section
variable {P : Program} {N : Nat} {h0 : Heap} {Γ : Gm} {w : World} {H H' : HT} {tt : T RTI} {n : Nat} {env : T RV} {a : Act}

theorem newMap_done {t : TypeId} {v : RV} (m : Mem N h0 Γ w.heap H) (e : HT.newK H (.map [] [] 0) (fun l H => OR.ok (.map l) H) = .ok v H') :
    Done N h0 Γ w H ((do pure (.value (← Instr.makeMap t none)) : Sem Next).run P w) v H' := by
  obtain ⟨H1, h1, h2⟩ := newK_spec H (.map [] [] 0) (fun l H => OR.ok (.map l) H)
  rw [h1] at e
  simp at e
  obtain ⟨rfl, rfl⟩ := e
  refine ⟨.map (some w.heap.size), put Γ H.sz ⟨w.heap.size, 0, 0⟩, { w with heap := w.heap.push (.map #[] 0) }, .inl ?_, ext_new (o := .map [] [] 0) (ob := .map #[] 0) m ⟨[], by simp, Reps.nil, Reps.nil, rfl⟩ h2 rfl rfl rfl, ?_⟩
  · simp [Instr.makeMap, run_newObj]
  · exact .map H.sz ⟨w.heap.size, 0, 0⟩ (by simp [put])

theorem newMapR_done {t k e0 : TypeId} (ht : P.underlying t = some (.map k e0)) {q : IntKind} {z : Int} {v : RV} (m : Mem N h0 Γ w.heap H) (e : HT.newK H (.map [] [] 0) (fun l H => OR.ok (.map l) H) = .ok v H') :
    Done N h0 Γ w H ((do pure (.value (← Instr.makeMap t (some (.int q z)))) : Sem Next).run P w) v H' := by
  obtain ⟨H1, h1, h2⟩ := newK_spec H (.map [] [] 0) (fun l H => OR.ok (.map l) H)
  rw [h1] at e
  simp at e
  obtain ⟨rfl, rfl⟩ := e
  refine ⟨.map (some w.heap.size), put Γ H.sz ⟨w.heap.size, 0, 0⟩, { w with heap := w.heap.push (.map #[] 0) }, .inl ?_, ext_new (o := .map [] [] 0) (ob := .map #[] 0) m ⟨[], by simp, Reps.nil, Reps.nil, rfl⟩ h2 rfl rfl rfl, ?_⟩
  · simp [Instr.makeMap, run_newObj, run_underlying ht, asInt, asIntOf]
  · exact .map H.sz ⟨w.heap.size, 0, 0⟩ (by simp [put])

theorem setN_eq {β : Type} : ∀ (es : List (RV × RV)) (i : Nat) (e : RV × RV) (k : List (RV × RV) → β), setN es i e k = k (es.set i e)
  | [], i, e, k => rfl
  | x :: es, 0, e, k => rfl
  | x :: es, i + 1, e, k => by
    have : setN (x :: es) (i + 1) e k = setN es i e fun r => k (x :: r) := rfl
    rw [this, setN_eq es i e]; rfl

theorem Reps.set {cs : List RV} {xs : List Value} (r : Reps Γ cs xs) {i : Nat} {c : RV} {x : Value} (hc : Rep Γ c x) : Reps Γ (cs.set i c) (xs.set i x) := by
  refine ⟨by simp [r.1], fun j d y h1 h2 => ?_⟩
  rw [List.getElem?_set] at h1 h2
  rw [r.1] at h2
  split at h1
  · rename_i hij
    rw [if_pos hij] at h2
    split at h1 <;> simp_all
  · rename_i hij
    rw [if_neg hij] at h2
    exact r.2 j d y h1 h2
theorem Reps.eraseIdx {cs : List RV} {xs : List Value} (r : Reps Γ cs xs) (i : Nat) : Reps Γ (cs.eraseIdx i) (xs.eraseIdx i) := by
  rw [List.eraseIdx_eq_take_drop_succ, List.eraseIdx_eq_take_drop_succ]
  exact (r.take i).append (r.drop (i + 1))

theorem map_erase {α β : Type} (f : α → β) (l : List α) (j : Nat) : (l.eraseIdx j).map f = (l.map f).eraseIdx j := by
  rw [List.eraseIdx_eq_take_drop_succ, List.eraseIdx_eq_take_drop_succ, List.map_append, List.map_take, List.map_drop]
/-- A map's object is set. -/
theorem map_set (m : Mem N h0 Γ w.heap H) {l : Nat} {p : Pl} {es es' : List (RV × RV)} {bs bs' : List Nat} {ck ck' : Nat} {en en' : List MapEntry} (hp : Γ l = some p) (ho : H.get l = some (.map es bs ck)) (hh : w.heap[p.b]? = some (.map ⟨en⟩ ck))
    (r1 : Reps Γ (es'.map (·.1)) (en'.map (·.key))) (r2 : Reps Γ (es'.map (·.2)) (en'.map (·.val))) (r3 : en'.map (·.born) = bs') (hH : Upd H H' l (.map es' bs' ck')) :
    (setObj p.b (.map ⟨en'⟩ ck')).run P w = .ok () { w with heap := w.heap.setIfInBounds p.b (.map ⟨en'⟩ ck') } ∧ Ext N h0 Γ w H Γ { w with heap := w.heap.setIfInBounds p.b (.map ⟨en'⟩ ck') } H' := by
  have hlt : p.b < w.heap.size := (Array.getElem?_eq_some_iff.1 hh).1
  refine ⟨by simp [setObj, Sem.run, hh], Gle.refl Γ, ?_, by rw [hH.1]; exact Nat.le_refl _, fun _ _ h => h, rfl, rfl, by simp⟩
  refine mem_upd (o' := .map es' bs' ck') m hp ho rfl (by simp) (fun b hb => ?_) ⟨en', ?_, r1, r2, r3⟩ hH
  · simp only
    rw [Array.getElem?_setIfInBounds_ne (fun h => hb h.symm)]
  · simp only
    rw [Array.getElem?_setIfInBounds, if_pos rfl, if_pos hlt]

theorem eqC_bits {l : Lf} {x y : RV} {xa ya : Value} (hk : keyLf [l] = true) (e : eqC l x y = some true) (rx : Rep Γ x xa) (ry : Rep Γ y ya) (d : Nat) : Instr.sameBits d ya xa = true := by
  unfold eqC at e
  split at e
  · rename_i p q
    obtain rfl := rep_bool rx; obtain rfl := rep_bool ry
    cases p <;> cases q <;> simp [ifB_true, ifB_false] at e <;> simp [Instr.sameBits]
  · rename_i k p k' q
    obtain rfl := rep_int rx; obtain rfl := rep_int ry
    replace e := ifB_some e; obtain ⟨h1, e⟩ := e
    obtain rfl := kindEq_eq.1 h1
    rw [eqI_eq] at e
    simp at e; subst e
    simp [Instr.sameBits]
  · rename_i s s'
    obtain ⟨rfl, h1⟩ := rep_str rx; obtain ⟨rfl, h2⟩ := rep_str ry
    rw [eqZ_eq] at e
    simp at e
    rw [e]
    simp [Instr.sameBits, beq_toListBytes]
  · obtain rfl := rep_nilp rx; obtain rfl := rep_nilp ry
    simp [Instr.sameBits]
  · simp at e
  · simp at e
  · rename_i l1 o1 l2 o2
    obtain ⟨p1, h1, rfl⟩ := rep_ptr rx
    obtain ⟨p2, h2, rfl⟩ := rep_ptr ry
    replace e := ifB_some e; obtain ⟨h3, e⟩ := e
    obtain rfl := Nat.eq_of_beq_eq_true h3
    simp at e
    subst e
    rw [h1] at h2; simp at h2; subst h2
    simp [Instr.sameBits]
  all_goals first | (simp [keyLf] at hk; done) | (simp at e; done)

theorem eqL_bits : ∀ {ls : List Lf} {cs ds : List RV} {xs ys : List Value}, keyLf ls = true → eqL ls cs ds = some true → Reps Γ cs xs → Reps Γ ds ys → ∀ d, (ys.zip xs).all (fun p => Instr.sameBits d p.1 p.2) = true ∧ ys.length = xs.length
  | [], cs, ds, xs, ys, hk, e, rx, ry, d => by
    cases cs <;> cases ds <;> simp [eqL] at e
    obtain rfl := rx.inv_nil; obtain rfl := ry.inv_nil
    simp
  | l :: ls, cs, ds, xs, ys, hk, e, rx, ry, d => by
    cases cs with
    | nil => simp [eqL] at e
    | cons c cs =>
      cases ds with
      | nil => simp [eqL] at e
      | cons c' ds =>
        obtain ⟨x, xs', rfl, r1, r2⟩ := rx.inv_cons
        obtain ⟨y, ys', rfl, r3, r4⟩ := ry.inv_cons
        simp only [eqL] at e
        replace e := onOpt_some_of e; obtain ⟨b, hb, e⟩ := e
        have hk1 : keyLf [l] = true ∧ keyLf ls = true := by
          cases l <;> simp only [keyLf] at hk ⊢ <;> first | exact ⟨trivial, hk⟩ | (simp at hk)
        cases b with
        | false =>
          rw [ifB_false] at e
          replace e := onOpt_some_of e; obtain ⟨_, _, e⟩ := e
          simp at e
        | true =>
          rw [ifB_true] at e
          obtain ⟨h1, h2⟩ := eqL_bits hk1.2 e r2 r4 d
          have := eqC_bits hk1.1 hb r1 r3 d
          simp only [List.zip_cons_cons, List.all_cons, this, h1, List.length_cons, h2]
          exact ⟨rfl, trivial⟩

theorem eqV_bits {ki : RTI} {key k : RV} {ka kb : Value} {ls : List Lf} (hls : ki.eq = some ls) (hkl : keyLf ls = true) (e : eqV ki key k = some true) (rk : Rep Γ key ka) (rk' : Rep Γ k kb) : Instr.sameBits 10000 kb ka = true := by
  unfold eqV at e
  rw [hls, onOpt_some] at e
  replace e := ifB_some e; obtain ⟨hsh, e⟩ := e
  cases hag : ki.agg with
  | true =>
    rw [hag, ifB_true] at hsh
    cases key <;> simp only [isAg, ifB_true, ifB_false] at hsh <;> first | (simp at hsh; done) | skip
    cases k <;> first | (simp [isAg] at hsh; done) | skip
    obtain ⟨xs, r1, _, rfl⟩ := rep_agg rk
    obtain ⟨ys, r2, _, rfl⟩ := rep_agg rk'
    obtain ⟨h1, h2⟩ := eqL_bits hkl e r1 r2 9999
    unfold Instr.sameBits
    simp only [Bool.and_eq_true, beq_iff_eq]
    exact ⟨h2, h1⟩
  | false =>
    rw [hag, ifB_false] at hsh
    have hx : isAg key = false := by cases hx : isAg key with | false => rfl | true => rw [hx] at hsh; simp [ifB_true, ifB_false] at hsh
    have hy : isAg k = false := by cases hy : isAg k with | false => rfl | true => rw [hx, hy] at hsh; simp [ifB_true, ifB_false] at hsh
    rw [cells_one hx, cells_one hy] at e
    obtain ⟨l, rfl, hc⟩ := eqL_nil e
    exact eqC_bits hkl hc rk rk' 10000

/-- An entry at its place, with another key and value. -/
theorem modify_set {en : List MapEntry} {j : Nat} {e' : MapEntry} (h6 : en[j]? = some e') (f : MapEntry → MapEntry) : (⟨en⟩ : Array MapEntry).modify j f = ⟨en.set j (f e')⟩ := by
  have hjl : j < en.length := (List.getElem?_eq_some_iff.1 h6).1
  have hje : en[j] = e' := (List.getElem?_eq_some_iff.1 h6).2
  apply Array.ext_getElem?
  intro i
  rw [Array.getElem?_modify]
  simp only [List.getElem?_toArray, List.getElem?_set]
  by_cases hij : j = i
  · subst hij
    simp [hjl, hje]
  · simp [hij]

theorem keyStays_run {ki : RTI} {key k' : RV} {ka kb : Value} (hkb : keyB ki key = true) (h9 : eqV ki key k' = some true) (rk : Rep Γ key ka) (rk' : Rep Γ k' kb) : (Instr.keyThatStays kb ka).run P w = .ok ka w := by
  obtain ⟨⟨ls, hls, hkl⟩, _⟩ := keyB_ok hkb
  have : Instr.sameBits 10000 kb ka = true := eqV_bits hls hkl h9 rk rk'
  simp [Instr.keyThatStays, this]

theorem born_set {en : List MapEntry} {j : Nat} {e' : MapEntry} (h6 : en[j]? = some e') (f : MapEntry → MapEntry) (hf : ∀ e, (f e).born = e.born) : (en.set j (f e')).map (·.born) = en.map (·.born) := by
  rw [List.map_set, hf]
  apply List.ext_getElem?
  intro i
  rw [List.getElem?_set]
  split
  · rename_i hij; subst hij
    split
    · simp [h6]
    · rename_i hl; rw [List.getElem?_eq_none (by omega)]
  · rfl

theorem mapUpdateV_done (hT : TtOk P tt) {t : TypeId} {x key u v : RV} {xa ka ua : Value} (m : Mem N h0 Γ w.heap H) (ra : Rep Γ x xa) (rk : Rep Γ key ka) (ru : Rep Γ u ua) (e : mapUpdateV tt H t x key u = .ok v H') :
    Done N h0 Γ w H ((do Instr.mapUpdate t xa ka ua; pure .skip : Sem Next).run P w) v H' := by
  unfold mapUpdateV at e
  replace e := tyK_ok e; obtain ⟨ti, hti, e⟩ := e
  obtain ⟨tok, rfl⟩ := hT _ _ hti
  have hd := tok.d
  split at e
  · rename_i kt e0 hdd
    rw [hdd] at hd
    have hd : P.underlying ti.t = some (.map kt e0) := hd
    replace e := tyK_ok e; obtain ⟨ki, hki, e⟩ := e
    replace e := tyK_ok e; obtain ⟨ei, hei, e⟩ := e
    replace e := ifB_ok e; obtain ⟨hkb, e⟩ := e
    replace e := ifB_ok e; obtain ⟨huk, e⟩ := e
    obtain ⟨kok, rfl⟩ := hT _ _ hki
    split at e
    · rename_i l
      replace e := onOpt_ok e; obtain ⟨o, ho, e⟩ := e
      split at e
      · rename_i es bs ck
        replace e := onOpt_ok e; obtain ⟨r, hr, e⟩ := e
        obtain ⟨p, hp, rfl⟩ := rep_map ra
        obtain ⟨en, hh, r1, r2, r3⟩ := m.obj l p _ hp ho
        obtain ⟨q, hq, hm⟩ := findKey_run (w := w) kok rk r1 r2 hr
        have hck := checkKey_run (w := w) kok rk hkb false
        have hg : (getObj p.b).run P w = .ok (.map ⟨en⟩ ck) w := by simp [getObj, Sem.run, hh]
        have hq' : (Instr.findKey ki.t ka (⟨en⟩ : Array MapEntry).toList).run P w = .ok q w := hq
        cases r with
        | none =>
          rw [onOpt_none, appK_eq, appK_eq] at e
          obtain ⟨H1, h1, h2⟩ := setK_spec H l (.map (es ++ [(key, u)]) (bs ++ [ck]) (Nat.succ ck)) (fun H => OR.ok .undef H)
          rw [h1] at e
          simp at e
          obtain ⟨rfl, rfl⟩ := e
          obtain ⟨h3, h4⟩ := map_set (P := P) (en' := en ++ [{ key := ka, val := ua, born := ck }]) m hp ho hh (by simpa using r1.append (Reps.cons rk Reps.nil)) (by simpa using r2.append (Reps.cons ru Reps.nil)) (by simp [r3]) h2
          subst hm
          refine ⟨Go.undef, Γ, _, .inr ⟨?_, rfl⟩, h4, .undef⟩
          simp only [Instr.mapUpdate, Sem.run_bind, run_underlying hd, Result.andThen_ok, hg, hck, hq']
          have : (⟨en⟩ : Array MapEntry).push { key := ka, val := ua, born := ck } = ⟨en ++ [{ key := ka, val := ua, born := ck }]⟩ := by simp
          rw [this, h3]
          rfl
        | some pr =>
          obtain ⟨j, old⟩ := pr
          rw [onOpt_some, setN_eq] at e
          obtain ⟨H1, h1, h2⟩ := setK_spec H l (.map (es.set j (key, u)) bs ck) (fun H => OR.ok .undef H)
          rw [h1] at e
          simp at e
          obtain ⟨rfl, rfl⟩ := e
          obtain ⟨y, e', rfl, h5, h6, h7, k', h8, h9⟩ := hm
          obtain ⟨h3, h4⟩ := map_set (P := P) (en' := en.set j { e' with key := ka, val := ua }) m hp ho hh
            (by rw [List.map_set, List.map_set]; exact r1.set rk) (by rw [List.map_set, List.map_set]; exact r2.set ru) (by rw [← r3]; exact born_set h6 (fun e => { e with key := ka, val := ua }) (fun _ => rfl)) h2
          have hks := keyStays_run (P := P) (w := w) hkb h9 rk (r1.2 j k' e'.key (by simp [h8]) (by simp [h6]))
          refine ⟨Go.undef, Γ, _, .inr ⟨?_, rfl⟩, h4, .undef⟩
          simp only [Instr.mapUpdate, Sem.run_bind, run_underlying hd, Result.andThen_ok, hg, hck, hq']
          have hget : ((((⟨en⟩ : Array MapEntry)[j]?).map (·.key)).getD ka) = e'.key := by simp [h6]
          simp only [hget, hks, Sem.run_bind, Result.andThen_ok]
          rw [modify_set h6, h3]
          rfl
      · simp at e
    · simp at e
  · simp at e

theorem mapEntryV_done (hT : TtOk P tt) {t : TypeId} {x key v : RV} {xa ka : Value} (m : Mem N h0 Γ w.heap H) (ra : Rep Γ x xa) (rk : Rep Γ key ka) (e : mapEntryV tt H t x key = .ok v H') :
    Done N h0 Γ w H ((do pure (.value (← Instr.mapEntry t xa ka)) : Sem Next).run P w) v H' := by
  unfold mapEntryV at e
  replace e := tyK_ok e; obtain ⟨ti, hti, e⟩ := e
  obtain ⟨tok, rfl⟩ := hT _ _ hti
  have hd := tok.d
  split at e
  · rename_i kt e0 hdd
    rw [hdd] at hd
    have hd : P.underlying ti.t = some (.map kt e0) := hd
    replace e := tyK_ok e; obtain ⟨ki, hki, e⟩ := e
    replace e := tyK_ok e; obtain ⟨ei, hei, e⟩ := e
    replace e := onOpt_ok e; obtain ⟨z, hz, e⟩ := e
    replace e := ifB_ok e; obtain ⟨hkb, e⟩ := e
    obtain ⟨kok, rfl⟩ := hT _ _ hki
    obtain ⟨eok, rfl⟩ := hT _ _ hei
    obtain ⟨x0, h6z, h7z, _⟩ := zeroV_run (P := P) (w := w) (Γ := Γ) eok hz
    split at e
    · rename_i l
      replace e := onOpt_ok e; obtain ⟨o, ho, e⟩ := e
      split at e
      · rename_i es bs ck
        replace e := onOpt_ok e; obtain ⟨r, hr, e⟩ := e
        obtain ⟨p, hp, rfl⟩ := rep_map ra
        obtain ⟨en, hh, r1, r2, r3⟩ := m.obj l p _ hp ho
        obtain ⟨q, hq, hm⟩ := findKey_run (w := w) kok rk r1 r2 hr
        have hck := checkKey_run (w := w) kok rk hkb false
        have hg : (getObj p.b).run P w = .ok (.map ⟨en⟩ ck) w := by simp [getObj, Sem.run, hh]
        have hq' : (Instr.findKey ki.t ka (⟨en⟩ : Array MapEntry).toList).run P w = .ok q w := hq
        cases r with
        | none =>
          rw [onOpt_none, appK_eq, appK_eq] at e
          obtain ⟨H1, h1, h2⟩ := setK_spec H l (.map (es ++ [(key, z)]) (bs ++ [ck]) (Nat.succ ck)) (fun H => OR.ok (.tup [z, .int .i64 (.ofNat ck)]) H)
          rw [h1] at e
          simp at e
          obtain ⟨rfl, rfl⟩ := e
          obtain ⟨h3, h4⟩ := map_set (P := P) (en' := en ++ [{ key := ka, val := x0, born := ck }]) m hp ho hh (by simpa using r1.append (Reps.cons rk Reps.nil)) (by simpa using r2.append (Reps.cons h7z Reps.nil)) (by simp [r3]) h2
          subst hm
          refine ⟨.tuple #[x0, goInt ck], Γ, _, .inl ?_, h4, .tup _ [x0, goInt ck] rfl (Reps.cons h7z (Reps.cons (.int _ _) Reps.nil)).2⟩
          simp only [Instr.mapEntry, Sem.run_bind, run_underlying hd, Result.andThen_ok, hg, hck, hq', h6z]
          have : (⟨en⟩ : Array MapEntry).push { key := ka, val := x0, born := ck } = ⟨en ++ [{ key := ka, val := x0, born := ck }]⟩ := by simp
          rw [this, h3]
          rfl
        | some pr =>
          obtain ⟨j, old⟩ := pr
          rw [onOpt_some] at e
          replace e := onOpt_ok e; obtain ⟨bb, hbb, e⟩ := e
          rw [setN_eq] at e
          obtain ⟨H1, h1, h2⟩ := setK_spec H l (.map (es.set j (key, old)) bs ck) (fun H => OR.ok (.tup [old, .int .i64 (.ofNat bb)]) H)
          rw [h1] at e
          simp at e
          obtain ⟨rfl, rfl⟩ := e
          obtain ⟨y, e', rfl, h5, h6, h7, k', h8, h9⟩ := hm
          have hb' : bb = e'.born := by
            rw [nthL_eq, ← r3, List.getElem?_map, h6] at hbb
            simpa using hbb.symm
          obtain ⟨h3, h4⟩ := map_set (P := P) (en' := en.set j { e' with key := ka }) m hp ho hh
            (by rw [List.map_set, List.map_set]; exact r1.set rk) (by rw [List.map_set, List.map_set, h7]; exact r2.set h5) (by rw [← r3]; exact born_set h6 (fun e => { e with key := ka }) (fun _ => rfl)) h2
          have hks := keyStays_run (P := P) (w := w) hkb h9 rk (r1.2 j k' e'.key (by simp [h8]) (by simp [h6]))
          refine ⟨.tuple #[y, goInt bb], Γ, _, .inl ?_, h4, .tup _ [y, goInt bb] rfl (Reps.cons h5 (Reps.cons (.int _ _) Reps.nil)).2⟩
          simp only [Instr.mapEntry, Sem.run_bind, run_underlying hd, Result.andThen_ok, hg, hck, hq']
          have hget : ((((⟨en⟩ : Array MapEntry)[j]?).map (·.key)).getD ka) = e'.key := by simp [h6]
          simp only [hget, hks, Sem.run_bind, Result.andThen_ok]
          rw [modify_set h6, h3]
          simp [h6, hb']
      · simp at e
    · simp at e
  · simp at e

theorem idxOf_spec {b : Nat} : ∀ {bs : List Nat} {i j : Nat}, idxOf b bs i = some j → i ≤ j ∧ bs[j - i]? = some b ∧ ∀ k, k < j - i → bs[k]? ≠ some b
  | [], i, j, e => by simp [idxOf] at e
  | x :: r, i, j, e => by
    simp only [idxOf] at e
    rw [ifB_eq] at e
    split at e
    · rename_i h
      simp at e; subst e
      have := Nat.eq_of_beq_eq_true h
      simp [this]
    · rename_i h
      obtain ⟨h1, h2, h3⟩ := idxOf_spec e
      refine ⟨by omega, ?_, fun k hk => ?_⟩
      · rw [show j - i = (j - Nat.succ i) + 1 by omega, List.getElem?_cons_succ]; exact h2
      · cases k with
        | zero => intro hx; simp at hx; exact h (by rw [hx]; simp)
        | succ k => rw [List.getElem?_cons_succ]; exact h3 k (by omega)

theorem entryStoreV_done {t : TypeId} {x st u v : RV} {xa sa ua : Value} (m : Mem N h0 Γ w.heap H) (ra : Rep Γ x xa) (rs : Rep Γ st sa) (ru : Rep Γ u ua) (e : entryStoreV H x st u = .ok v H') :
    Done N h0 Γ w H ((do Instr.entryStore t xa sa ua; pure .skip : Sem Next).run P w) v H' := by
  unfold entryStoreV at e
  split at e
  · rename_i l k b
    obtain rfl := rep_int rs
    replace e := onOpt_ok e; obtain ⟨o, ho, e⟩ := e
    split at e
    · rename_i es bs ck
      replace e := onOpt_ok e; obtain ⟨i, hi, e⟩ := e
      replace e := onOpt_ok e; obtain ⟨e0, he0, e⟩ := e
      replace e := ifB_ok e; obtain ⟨huk, e⟩ := e
      rw [setN_eq] at e
      obtain ⟨p, hp, rfl⟩ := rep_map ra
      obtain ⟨en, hh, r1, r2, r3⟩ := m.obj l p _ hp ho
      obtain ⟨_, hb1, hb2⟩ := idxOf_spec hi
      simp only [Nat.sub_zero] at hb1 hb2
      rw [← r3, List.getElem?_map, Option.map_eq_some_iff] at hb1
      obtain ⟨e', h6, hborn⟩ := hb1
      rw [nthL_eq] at he0
      obtain ⟨H1, h1, h2⟩ := setK_spec H l (.map (es.set i (e0.1, u)) bs ck) (fun H => OR.ok .undef H)
      rw [h1] at e
      simp at e
      obtain ⟨rfl, rfl⟩ := e
      obtain ⟨h3, h4⟩ := map_set (P := P) (en' := en.set i { e' with val := ua }) m hp ho hh
        (by rw [List.map_set, List.map_set]; exact r1.set (r1.2 i e0.1 e'.key (by simp [he0]) (by simp [h6]))) (by rw [List.map_set, List.map_set]; exact r2.set ru) (by rw [← r3]; exact born_set h6 (fun e => { e with val := ua }) (fun _ => rfl)) h2
      have hg : (getObj p.b).run P w = .ok (.map ⟨en⟩ ck) w := by simp [getObj, Sem.run, hh]
      have hfind : (⟨en⟩ : Array MapEntry).findIdx? (fun e => (e.born : Int) == Int.ofNat b) = some i := by
        rw [Array.findIdx?_eq_some_iff_getElem]
        have hil : i < en.length := (List.getElem?_eq_some_iff.1 h6).1
        have hie : en[i] = e' := (List.getElem?_eq_some_iff.1 h6).2
        refine ⟨hil, by simp [hie, hborn], fun j hj => ?_⟩
        have := hb2 j hj
        rw [← r3, List.getElem?_map, List.getElem?_eq_getElem (show j < en.length by omega)] at this
        simp at this ⊢
        omega
      refine ⟨Go.undef, Γ, _, .inr ⟨?_, rfl⟩, h4, .undef⟩
      simp only [Instr.entryStore, Sem.run_bind, hg, Result.andThen_ok, asInt, asIntOf, Sem.run_pure, hfind]
      rw [modify_set h6, h3]
      rfl
    · simp at e
  · simp at e

theorem rangeV_done (hT : TtOk P tt) {t : TypeId} {x v : RV} {xa : Value} (m : Mem N h0 Γ w.heap H) (ra : Rep Γ x xa) (e : rangeV tt H t x = .ok v H') :
    Done N h0 Γ w H ((do pure (.value (← Instr.range t xa)) : Sem Next).run P w) v H' := by
  unfold rangeV at e
  replace e := tyK_ok e; obtain ⟨ti, hti, e⟩ := e
  obtain ⟨tok, rfl⟩ := hT _ _ hti
  have hd := tok.d
  split at e
  · rename_i kt e0 hdd
    rw [hdd] at hd
    have hd : P.underlying ti.t = some (.map kt e0) := hd
    split at e
    · rename_i l
      replace e := onOpt_ok e; obtain ⟨o, ho, e⟩ := e
      split at e
      · rename_i es bs ck
        obtain ⟨p, hp, rfl⟩ := rep_map ra
        obtain ⟨en, hh, r1, r2, r3⟩ := m.obj l p _ hp ho
        have hg : (getObj p.b).run P w = .ok (.map ⟨en⟩ ck) w := by simp [getObj, Sem.run, hh]
        obtain ⟨H1, h1, h2⟩ := newK_spec H (.miter l ck [] ck) (fun l H => OR.ok (.ptr l 0) H)
        rw [h1] at e
        simp only [OR.ok.injEq] at e
        obtain ⟨rfl, rfl⟩ := e
        have hb : p.b < w.heap.size := m.blk l p hp
        have hne : l ≠ H.sz := fun h => by have := m.lt l p hp; omega
        refine ⟨.pointer (some ⟨w.heap.size, 0, none⟩), put Γ H.sz ⟨w.heap.size, 0, 0⟩, { w with heap := w.heap.push (.mapIter (some p.b) ck #[] ck) }, .inl ?_, ext_new (o := .miter l ck [] ck) (ob := .mapIter (some p.b) ck #[] ck) m ⟨p, ?_, by simp, rfl⟩ h2 rfl rfl rfl, ?_⟩
        · simp [Instr.range, run_underlying hd, Sem.run_bind, hg, run_newObj]
        · simp [put, hne, hp]
        · exact .ptr H.sz 0 ⟨w.heap.size, 0, 0⟩ (by simp [put])
      · simp at e
    · simp at e
  · simp at e

theorem hasN_eq (b : Nat) : ∀ (l : List Nat), hasN b l = l.contains b
  | [] => rfl
  | x :: r => by
    have ih := hasN_eq b r
    show ifB (Nat.beq x b) true (hasN b r) = _
    rw [ih, List.contains_cons]
    cases h : Nat.beq x b with
    | true => rw [nbeqK.1 h]; simp [ifB_true]
    | false =>
      have : (b == x) = false := by
        rw [beq_eq_false_iff_ne]
        intro e; rw [e] at h; simp at h
      simp [ifB_false, this]
where nbeqK {a b : Nat} : Nat.beq a b = true ↔ a = b := by rw [Nat.beq_eq]
theorem allLt_spec (n : Nat) : ∀ {l : List Nat}, allLt n l = true → ∀ x ∈ l, x < n
  | [], _, x, h => by simp at h
  | y :: r, e, x, h => by
    have e : ifB (Nat.blt y n) (allLt n r) false = true := e
    rw [ifB_eq] at e
    split at e
    · rename_i hy
      rw [Nat.blt_eq] at hy
      rcases List.mem_cons.1 h with rfl | h
      · exact hy
      · exact allLt_spec n e x h
    · simp at e
/-- Of entries, those that are left. -/
theorem leftV_spec (seen : List Nat) : ∀ {es : List (RV × RV)} {en : List MapEntry}, es.length = en.length →
    (leftV seen (en.map (·.born)) es).map (·.1) = (en.filter fun e => !seen.contains e.born).map (·.born) ∧
    ∀ p ∈ leftV seen (en.map (·.born)) es, ∃ (i : Nat) (e : MapEntry), en[i]? = some e ∧ es[i]? = some p.2 ∧ e.born = p.1 ∧ e ∈ en.filter fun e => !seen.contains e.born
  | [], [], _ => ⟨rfl, fun p h => by simp [leftV] at h⟩
  | [], _ :: _, h => by simp at h
  | _ :: _, [], h => by simp at h
  | x :: es, y :: en, h => by
    obtain ⟨h1, h2⟩ := leftV_spec seen (es := es) (en := en) (by simpa using h)
    simp only [List.map_cons, leftV, hasN_eq]
    cases hc : seen.contains y.born with
    | true =>
      have hf : (y :: en).filter (fun e => !seen.contains e.born) = en.filter fun e => !seen.contains e.born := by simp only [List.filter_cons, hc, Bool.not_true, Bool.false_eq_true, if_false]
      rw [ifB_true, hf]
      refine ⟨h1, fun p hp => ?_⟩
      obtain ⟨i, e, g1, g2, g3, g4⟩ := h2 p hp
      exact ⟨i + 1, e, by simpa using g1, by simpa using g2, g3, g4⟩
    | false =>
      have hf : (y :: en).filter (fun e => !seen.contains e.born) = y :: en.filter fun e => !seen.contains e.born := by simp only [List.filter_cons, hc, Bool.not_false, if_true]
      rw [ifB_false, hf]
      refine ⟨by rw [List.map_cons, List.map_cons, h1], fun p hp => ?_⟩
      rcases List.mem_cons.1 hp with rfl | hp
      · exact ⟨0, y, rfl, rfl, rfl, by simp⟩
      · obtain ⟨i, e, g1, g2, g3, g4⟩ := h2 p hp
        exact ⟨i + 1, e, by simpa using g1, by simpa using g2, g3, List.mem_cons_of_mem _ g4⟩

theorem nextV_done {ty : TypeId} {x v : RV} {xa : Value} {str : Bool} (m : Mem N h0 Γ w.heap H) (ra : Rep Γ x xa) (e : nextV H x str = .ok v H') :
    Done N h0 Γ w H ((do pure (.value (← Instr.next xa str ty)) : Sem Next).run P w) v H' := by
  unfold nextV at e
  cases str with
  | true => rw [ifB_true] at e; simp at e
  | false =>
  rw [ifB_false] at e
  split at e
  · rename_i l off
    replace e := ifB_ok e; obtain ⟨h0, e⟩ := e
    rw [Nat.beq_eq] at h0
    subst h0
    replace e := onOpt_ok e; obtain ⟨o, ho, e⟩ := e
    split at e
    · rename_i lm since seen last
      replace e := onOpt_ok e; obtain ⟨o2, ho2, e⟩ := e
      split at e
      · rename_i es bs ck
        replace e := ifB_ok e; obtain ⟨hlt, e⟩ := e
        replace e := ifB_ok e; obtain ⟨hle, e⟩ := e
        have hle := Nat.le_of_ble_eq_true hle
        obtain ⟨p, hp, rfl⟩ := rep_ptr ra
        obtain ⟨q, hq, hh, hb⟩ := m.obj l p _ hp ho
        obtain ⟨en, hm, r1, r2, r3⟩ := m.obj lm q _ hq ho2
        subst r3
        have hlen : es.length = en.length := by have := r1.1; simpa using this.symm
        obtain ⟨l1, l2⟩ := leftV_spec seen hlen
        have hlt := allLt_spec since hlt
        have hold : ∀ y ∈ (⟨en⟩ : Array MapEntry).toList, y.born < since := fun y hy => hlt _ (List.mem_map.2 ⟨y, hy, rfl⟩)
        have hbase : p.base + 0 = 0 := by omega
        have hleft : (leftOf ⟨en⟩ ⟨seen⟩).toList = en.filter fun e => !seen.contains e.born := by
          unfold leftOf; simp
        rcases run_next_at (P := P) w ty p.b q.b since last ⟨seen⟩ ⟨en⟩ ck hh hm hold hle with ⟨h4, h5⟩ | ⟨y, hy, w1, hw1, h5⟩
        · have hn : leftV seen (en.map (·.born)) es = [] := by
            have h6 : (en.filter fun e => !seen.contains e.born) = [] := by rw [← hleft]; simpa using h4
            rw [h6] at l1
            simpa using l1
          rw [hn] at e
          simp only [OR.ok.injEq] at e
          obtain ⟨rfl, rfl⟩ := e
          refine Done.same (y := .tuple #[.bool false]) ?_ m (.tup _ [.bool false] rfl (Reps.cons (.bool _) Reps.nil).2)
          rw [hbase]
          simp [h5]
        · split at e
          · rename_i hn
            rw [hn] at l1
            have : (en.filter fun e => !seen.contains e.born) = [] := by simpa using l1.symm
            rw [hleft, this] at hy
            simp at hy
          · rename_i pr hn
            have hone : ∃ z, (en.filter fun e => !seen.contains e.born) = [z] ∧ z.born = pr.1 := by
              rw [hn] at l1
              cases hf : (en.filter fun e => !seen.contains e.born) with
              | nil => rw [hf] at l1; simp at l1
              | cons z zs => rw [hf] at l1; simp at l1; exact ⟨z, by rw [l1.2], l1.1.symm⟩
            obtain ⟨z, hz, hzb⟩ := hone
            rw [hleft, hz] at hy
            have hyz : y = z := by simpa using hy
            subst hyz
            obtain ⟨i, e1, g1, g2, g3, g4⟩ := l2 pr (by rw [hn]; simp)
            rw [hz] at g4
            have he1 : e1 = y := by simpa using g4
            subst he1
            obtain ⟨k, vv⟩ := pr.2
            rw [appK_eq] at e
            obtain ⟨H1, h6, h7⟩ := setK_spec H l (.miter lm since (seen ++ [pr.1]) ck) (fun H => OR.ok (.tup [.bool true, pr.2.1, pr.2.2]) H)
            rw [h6] at e
            simp only [OR.ok.injEq] at e
            obtain ⟨rfl, rfl⟩ := e
            have rk : Rep Γ pr.2.1 e1.key := r1.2 i _ _ (by simp [g2]) (by simp [g1])
            have rv : Rep Γ pr.2.2 e1.val := r2.2 i _ _ (by simp [g2]) (by simp [g1])
            have hlt2 : p.b < w.heap.size := m.blk l p hp
            have hw1h : w1.heap = w.heap ∧ w1.os = w.os ∧ w1.output = w.output := by
              rcases hw1 with rfl | rfl
              · exact ⟨rfl, rfl, rfl⟩
              · exact ⟨rfl, rfl, rfl⟩
            refine ⟨.tuple #[.bool true, e1.key, e1.val], Γ, _, .inl (by rw [hbase]; simp [h5]; rfl), ?_, .tup _ [.bool true, e1.key, e1.val] rfl (Reps.cons (.bool _) (Reps.cons rk (Reps.cons rv Reps.nil))).2⟩
            refine ⟨Gle.refl Γ, ?_, by rw [h7.1]; exact Nat.le_refl _, fun _ _ h => h, hw1h.2.1, hw1h.2.2, by simp [ChangeMaps.setBlock, hw1h.1]⟩
            refine mem_upd (o' := .miter lm since (seen ++ [pr.1]) ck) m hp ho rfl (by simp [ChangeMaps.setBlock, hw1h.1]) (fun b hb2 => ?_) ⟨q, hq, ?_, hb⟩ h7
            · simp only [ChangeMaps.setBlock, hw1h.1]
              rw [Array.getElem?_setIfInBounds_ne (fun h => hb2 h.symm)]
            · simp only [ChangeMaps.setBlock, hw1h.1]
              rw [Array.getElem?_setIfInBounds, if_pos rfl, if_pos hlt2, hzb]

          · simp at e
      · simp at e
    · simp at e
  · simp at e

theorem lastN_eq : ∀ (l : List Nat), lastN l = l.getLast?
  | [] => rfl
  | x :: r => by
    have ih := lastN_eq r
    show onOpt (lastN r) (some x) some = _
    rw [ih]
    cases r with
    | nil => rfl
    | cons y r =>
      rw [List.getLast?_cons_cons]
      cases h : (y :: r).getLast? with
      | none => simp at h
      | some z => rfl
theorem entryV_run {x v : RV} {xa : Value} (m : Mem N h0 Γ w.heap H) (ra : Rep Γ x xa) (e : entryV H x = some v) : ∃ z, (Instr.entry xa).run P w = .ok z w ∧ Rep Γ v z := by
  unfold entryV at e
  split at e
  · rename_i l off
    replace e := ifB_some e; obtain ⟨h0, e⟩ := e
    rw [Nat.beq_eq] at h0
    subst h0
    replace e := onOpt_some_of e; obtain ⟨o, ho, e⟩ := e
    split at e
    · rename_i lm since seen last
      replace e := onOpt_some_of e; obtain ⟨b, hbb, e⟩ := e
      replace e := onOpt_some_of e; obtain ⟨o2, ho2, e⟩ := e
      split at e
      · rename_i es bs ck
        replace e := ifB_some e; obtain ⟨hck, e⟩ := e
        rw [Nat.beq_eq] at hck
        subst hck
        replace e := onOpt_some_of e; obtain ⟨i, hi, e⟩ := e
        replace e := onOpt_some_of e; obtain ⟨e0, he0, e⟩ := e
        simp only [Option.some.injEq] at e
        subst e
        obtain ⟨p, hp, rfl⟩ := rep_ptr ra
        obtain ⟨q, hq, hh, hb⟩ := m.obj l p _ hp ho
        obtain ⟨en, hm, r1, r2, r3⟩ := m.obj lm q _ hq ho2
        obtain ⟨_, hb1, hb2⟩ := idxOf_spec hi
        simp only [Nat.sub_zero] at hb1 hb2
        rw [← r3, List.getElem?_map, Option.map_eq_some_iff] at hb1
        obtain ⟨e', h6, hborn⟩ := hb1
        rw [nthL_eq] at he0
        rw [lastN_eq] at hbb
        have hback : (⟨seen⟩ : Array Nat).back? = some b := by rw [← hbb, Array.back?_eq_getElem?, List.getLast?_eq_getElem?]; simp
        have hfind : (⟨en⟩ : Array MapEntry).find? (fun e => e.born == b) = some e' := by
          rw [← Array.find?_toList, List.find?_eq_some_iff_getElem]
          have hil : i < en.length := (List.getElem?_eq_some_iff.1 h6).1
          have hie : en[i] = e' := (List.getElem?_eq_some_iff.1 h6).2
          refine ⟨by simp [hborn], i, hil, hie, fun j hj => ?_⟩
          have := hb2 j hj
          rw [← r3, List.getElem?_map, List.getElem?_eq_getElem (show j < en.length by omega)] at this
          simpa using this
        have hbase : p.base + 0 = 0 := by omega
        refine ⟨.tuple #[e'.key, e'.val], ?_, .tup _ [e'.key, e'.val] rfl (Reps.cons (r1.2 i e0.1 e'.key (by simp [he0]) (by simp [h6])) (Reps.cons (r2.2 i e0.2 e'.val (by simp [he0]) (by simp [h6])) Reps.nil)).2⟩
        rw [hbase]
        simp only [Instr.entry, getObj, Sem.run_bind, Sem.run, hh, hm, Result.andThen, hback, hfind, bne_self_eq_false, Bool.false_eq_true, if_false]
        rfl
      · simp at e
    · simp at e
  · simp at e

theorem deleteV_done (hT : TtOk P tt) {t u ty : TypeId} {x key v : RV} {xa ka : Value} (m : Mem N h0 Γ w.heap H) (ra : Rep Γ x xa) (rk : Rep Γ key ka) (e : deleteV tt H t x key = .ok v H') :
    Done N h0 Γ w H ((do pure (.value (← Builtin.delete_ #[t, u] ty #[xa, ka])) : Sem Next).run P w) v H' := by
  unfold deleteV at e
  replace e := tyK_ok e; obtain ⟨ti, hti, e⟩ := e
  obtain ⟨tok, rfl⟩ := hT _ _ hti
  have hd := tok.d
  have r0 : Rep Γ (.tup []) (.tuple #[]) := .tup [] [] rfl (by simp)
  split at e
  · rename_i kt e0 hdd
    rw [hdd] at hd
    have hd : P.underlying ti.t = some (.map kt e0) := hd
    replace e := tyK_ok e; obtain ⟨ki, hki, e⟩ := e
    replace e := ifB_ok e; obtain ⟨hkb, e⟩ := e
    obtain ⟨kok, rfl⟩ := hT _ _ hki
    split at e
    · simp at e
      obtain ⟨rfl, rfl⟩ := e
      obtain rfl := rep_mapnil ra
      have hck := checkKey_run (w := w) kok rk hkb true
      exact Done.same (by simp [Builtin.delete_, run_underlying hd, hck]) m r0
    · rename_i l
      replace e := onOpt_ok e; obtain ⟨o, ho, e⟩ := e
      split at e
      · rename_i es bs ck
        replace e := onOpt_ok e; obtain ⟨r, hr, e⟩ := e
        obtain ⟨p, hp, rfl⟩ := rep_map ra
        obtain ⟨en, hh, r1, r2, r3⟩ := m.obj l p _ hp ho
        obtain ⟨q, hq, hm⟩ := findKey_run (w := w) kok rk r1 r2 hr
        have hck := checkKey_run (w := w) kok rk hkb en.isEmpty
        have hg : (getObj p.b).run P w = .ok (.map ⟨en⟩ ck) w := by simp [getObj, Sem.run, hh]
        cases r with
        | none =>
          rw [onOpt_none] at e
          simp at e
          obtain ⟨rfl, rfl⟩ := e
          subst hm
          obtain ⟨h3, h4⟩ := map_set (P := P) (en' := en) (es' := es) (bs' := bs) (ck' := ck) m hp ho hh r1 r2 r3 (H' := H) ⟨rfl, fun j => by by_cases h : j = l <;> simp [h, ho]⟩
          refine ⟨.tuple #[], Γ, _, .inl ?_, h4, r0⟩
          simp [Builtin.delete_, run_underlying hd, hg, hck, hq, h3]
        | some pr =>
          obtain ⟨j, old⟩ := pr
          rw [onOpt_some, takeK_eq, appK_eq, dropN_eq, takeK_eq, appK_eq, dropN_eq] at e
          obtain ⟨H1, h1, h2⟩ := setK_spec H l (.map (es.take j ++ es.drop (Nat.succ j)) (bs.take j ++ bs.drop (Nat.succ j)) ck) (fun H => OR.ok (.tup []) H)
          rw [h1] at e
          simp at e
          obtain ⟨rfl, rfl⟩ := e
          obtain ⟨y, e', rfl, h5, h6, h7, k', h8, h9⟩ := hm
          rw [← List.eraseIdx_eq_take_drop_succ, ← List.eraseIdx_eq_take_drop_succ] at h2
          obtain ⟨h3, h4⟩ := map_set (P := P) (en' := en.eraseIdx j) m hp ho hh (by rw [map_erase, map_erase]; exact r1.eraseIdx j) (by rw [map_erase, map_erase]; exact r2.eraseIdx j) (by rw [map_erase, r3]) h2
          refine ⟨.tuple #[], Γ, _, .inl ?_, h4, r0⟩
          have hjl : j < en.length := (List.getElem?_eq_some_iff.1 h6).1
          have hera : (⟨en⟩ : Array MapEntry).eraseIdxIfInBounds j = ⟨en.eraseIdx j⟩ := by
            unfold Array.eraseIdxIfInBounds
            rw [dif_pos (show j < (⟨en⟩ : Array MapEntry).size from hjl)]
            apply Array.ext'
            simp
          simp [Builtin.delete_, run_underlying hd, hg, hck, hq, hera, h3]
      · simp at e
    · simp at e
  · simp at e


/-! ### clear -/
noncomputable def clearV (tt : T RTI) (H : HT) (t : TypeId) (x : RV) : OR :=
  tyK tt t .bad fun ti => match ti.d, x with
    | .sl _, .slnil => .ok (.tup []) H
    | .sl e, .sl l off n sz _ => ifB (Nat.beq n 0) (.ok (.tup []) H) (tyK tt e .bad fun ei => onOpt ei.z .bad fun z => ifB (Nat.beq sz ei.sz) (ifB (Nat.ble 1 ei.sz) (repK n z fun zs =>
        writeK H l .bad fun g w t => ifB (Nat.ble (Nat.add off (Nat.mul n sz)) w) (setsK zs t off fun t => HT.setK H l (.cells g w t) fun H => .ok (.tup []) H) .bad) .bad) .bad)
    | _, _ => .bad
theorem rep_tup0 {Γ : Gm} : Rep Γ (.tup []) (.tuple #[]) := .tup [] [] rfl (fun i c x h _ => by simp at h)
theorem clearV_done (hT : TtOk P tt) {t ty : TypeId} {x v : RV} {xa : Value} (m : Mem N h0 Γ w.heap H) (ra : Rep Γ x xa) (e : clearV tt H t x = .ok v H') :
    Done N h0 Γ w H ((do pure (.value (← Builtin.clear_ #[t] ty #[xa])) : Sem Next).run P w) v H' := by
  unfold clearV at e
  replace e := tyK_ok e; obtain ⟨ti, hti, e⟩ := e
  obtain ⟨tok, rfl⟩ := hT _ _ hti
  have hd := tok.d
  split at e
  · rename_i e0 hdd
    rw [hdd] at hd
    have hd : P.underlying ti.t = some (.slice e0) := hd
    simp at e
    obtain ⟨rfl, rfl⟩ := e
    obtain rfl := rep_slnil ra
    exact Done.same (y := .tuple #[]) (by simp [Builtin.clear_, run_underlying hd]) m rep_tup0
  · rename_i e0 l off n sz c hdd
    rw [hdd] at hd
    have hd : P.underlying ti.t = some (.slice e0) := hd
    obtain ⟨p, ad, cap, hp, hn, hc, had, rfl⟩ := rep_sl ra
    rw [ifB_eq] at e
    split at e
    · rename_i h0
      obtain rfl := Nat.eq_of_beq_eq_true h0
      simp at e
      obtain ⟨rfl, rfl⟩ := e
      exact Done.same (y := .tuple #[]) (by simp [Builtin.clear_, run_underlying hd]) m rep_tup0
    · rename_i h0
      have hn0 : n ≠ 0 := fun h => h0 (by rw [h]; rfl)
      obtain ⟨k, rfl⟩ : ∃ k, n = k + 1 := ⟨n - 1, by omega⟩
      replace e := tyK_ok e; obtain ⟨ei, hei, e⟩ := e
      replace e := onOpt_ok e; obtain ⟨z, hz, e⟩ := e
      replace e := ifB_ok e; obtain ⟨hsz, e⟩ := e
      obtain rfl := Nat.eq_of_beq_eq_true hsz
      replace e := ifB_ok e; obtain ⟨hpos, e⟩ := e
      have hpos := Nat.le_of_ble_eq_true hpos
      rw [repK_eq] at e
      replace e := writeK_ok e; obtain ⟨g, w', t, hl, e⟩ := e
      replace e := ifB_ok e; obtain ⟨hle, e⟩ := e
      have hle : off + (k + 1) * ei.sz ≤ w' := Nat.le_of_ble_eq_true hle
      obtain ⟨t', h1, h2⟩ := setsK_spec (List.replicate (k + 1) z).flatten t off (fun t => HT.setK H l (.cells g w' t) fun H => OR.ok (.tup []) H)
      obtain ⟨H1, h3, h4⟩ := setK_spec H l (.cells g w' t') (fun H => OR.ok (.tup []) H)
      rw [h1, h3] at e
      simp only [OR.ok.injEq] at e
      obtain ⟨rfl, rfl⟩ := e
      obtain ⟨f1, f2, zv, f3, f4, f5, f6⟩ := ei_facts hT hei hz w Γ
      obtain ⟨zs, g1, g2, g3⟩ := zeros_rep (n := k + 1) f4 f5 (by omega)
      have hlen : (List.replicate (k + 1) z).flatten.length = (k + 1) * ei.sz := by simp [f2]
      obtain ⟨h7, h8⟩ := mem_write (P := P) (cs := (List.replicate (k + 1) z).flatten) (xs := zs) m hp hl g2 g3 (by rw [hlen]; exact hle) h2 h4
      obtain ⟨rfl, _⟩ := had (by omega)
      refine ⟨.tuple #[], Γ, _, .inl ?_, h8, rep_tup0⟩
      have hzc : Builtin.zeroCells zv.cells (k + 1) = ⟨zs⟩ := by
        unfold Builtin.zeroCells
        rw [f6, ← f2, ← g1, f2, f6]
      simp [Builtin.clear_, run_underlying hd, f3, hzc, h7]
  · simp at e
/-! ### unsafe.SliceData, unsafe.String -/
noncomputable def sliceDataV (x : RV) (H : HT) : OR :=
  match x with
  | .slnil => .ok .nilp H
  | .sl l off n _ _ => ifB (Nat.ble 1 n) (.ok (.ptr l off) H) .bad
  | _ => .bad
theorem sliceDataV_done {ts : Array TypeId} {ty : TypeId} {x v : RV} {xa : Value} (m : Mem N h0 Γ w.heap H) (ra : Rep Γ x xa) (e : sliceDataV x H = .ok v H') :
    Done N h0 Γ w H ((do pure (.value (← Builtin.unsafeSliceData_ ts ty #[xa])) : Sem Next).run P w) v H' := by
  unfold sliceDataV at e
  split at e
  · simp at e
    obtain ⟨rfl, rfl⟩ := e
    obtain rfl := rep_slnil ra
    exact done_value (Go.Lib.run_unsafeSliceData_nil w ts ty 0 0) m .nilp
  · rename_i l off n sz c
    replace e := ifB_ok e; obtain ⟨hn, e⟩ := e
    have hn := Nat.le_of_ble_eq_true hn
    simp at e
    obtain ⟨rfl, rfl⟩ := e
    obtain ⟨p, ad, cap, hp, hnc, hc, had, rfl⟩ := rep_sl ra
    obtain ⟨rfl, _⟩ := had (by omega)
    exact done_value (Go.Lib.run_unsafeSliceData_row w ts ty _ n cap (by omega)) m (.ptr l off p hp)
  · simp at e

noncomputable def unsafeStringV (tt : T RTI) (H : HT) (pt : TypeId) (x n : RV) : OR :=
  tyK tt pt .bad fun ti => match ti.d, x, n with
    | .ptr _, .nilp, .int .i64 (.ofNat 0) => .ok (.str ⟨0, 0⟩) H
    | .ptr e, .ptr l 0, .int .i64 (.ofNat n) => ifB (Nat.ble 1 n) (ifB (Nat.ble n 1000000) (tyK tt e .bad fun ei => ifB (Nat.beq ei.sz 1) (onOpt (H.get l) .bad fun o => match o with
        | .cells g m t => ifB (Nat.beq g (Nat.succ e)) (ifB (Nat.ble n m) (getsK t n 0 .bad fun cs => onOpt (bytesOfL cs) .bad fun bs => zipK bs fun s => HT.setK H l (.ro g m t) fun H => .ok (.str s) H) .bad) .bad
        | .ro g m t => ifB (Nat.beq g (Nat.succ e)) (ifB (Nat.ble n m) (getsK t n 0 .bad fun cs => onOpt (bytesOfL cs) .bad fun bs => zipK bs fun s => HT.setK H l (.ro g m t) fun H => .ok (.str s) H) .bad) .bad
        | _ => .bad) .bad) .bad) .bad
    | _, _, _ => .bad
theorem freeze_heap {w : World} {b n : Nat} {arr : Array Value} {E : TypeId} {fz : Nat × Nat} (h1 : w.heap[b]? = some (.cells arr E fz)) (hn : n ≠ 0) :
    ∃ fz', (w.freeze ⟨b, 0, none⟩ n).heap[b]? = some (.cells arr E fz') ∧ (w.freeze ⟨b, 0, none⟩ n).heap.size = w.heap.size ∧ (∀ i, i ≠ b → (w.freeze ⟨b, 0, none⟩ n).heap[i]? = w.heap[i]?) ∧ Kept w (w.freeze ⟨b, 0, none⟩ n) := by
  obtain ⟨lo, hi⟩ := fz
  refine ⟨if lo == hi then (0, 0 + n) else (min lo 0, max hi (0 + n)), ?_, ?_, fun i hi => ?_, ?_⟩
  · simp only [World.freeze, hn, if_false, Array.getElem?_modify, if_true, h1, Option.map_some]
  · simp [World.freeze, hn]
  · simp only [World.freeze, hn, if_false, Array.getElem?_modify]
    rw [if_neg (fun h => hi h.symm)]
  · exact ⟨by simp [World.freeze, hn], by simp [World.freeze, hn], by simp [World.freeze, hn]⟩
theorem unsafeStringV_done (hT : TtOk P tt) {pt it ty : TypeId} {x nn v : RV} {xa na : Value} (m : Mem N h0 Γ w.heap H) (ra : Rep Γ x xa) (rn : Rep Γ nn na) (e : unsafeStringV tt H pt x nn = .ok v H') :
    Done N h0 Γ w H ((do pure (.value (← Builtin.unsafeString_ #[pt, it] ty #[xa, na])) : Sem Next).run P w) v H' := by
  unfold unsafeStringV at e
  replace e := tyK_ok e; obtain ⟨ti, hti, e⟩ := e
  obtain ⟨tok, rfl⟩ := hT _ _ hti
  have hd := tok.d
  split at e
  · simp at e
    obtain ⟨rfl, rfl⟩ := e
    obtain rfl := rep_nilp ra
    obtain rfl := rep_int rn
    exact done_value (Go.Lib.run_unsafeString_none w ti.t it ty none) m (.str ⟨0, 0⟩)
  · rename_i e0 l n hdd
    rw [hdd] at hd
    have hd : P.underlying ti.t = some (.pointer e0) := hd
    obtain rfl := rep_int rn
    obtain ⟨p, hp, rfl⟩ := rep_ptr ra
    replace e := ifB_ok e; obtain ⟨hn1, e⟩ := e
    have hn1 := Nat.le_of_ble_eq_true hn1
    replace e := ifB_ok e; obtain ⟨hn2, e⟩ := e
    have hn2 := Nat.le_of_ble_eq_true hn2
    replace e := tyK_ok e; obtain ⟨ei, hei, e⟩ := e
    obtain ⟨eok, heit⟩ := hT _ _ hei
    replace e := ifB_ok e; obtain ⟨hsz, e⟩ := e
    have hsz := Nat.eq_of_beq_eq_true hsz
    have hcell : P.cellsOf e0 = 1 := by
      have := eok.sz
      rw [heit, hsz] at this
      unfold szT at this
      unfold Program.cellsOf
      rw [this]; rfl
    replace e := onOpt_ok e; obtain ⟨o, ho, e⟩ := e
    split at e
    · rename_i g mm t
      replace e := ifB_ok e; obtain ⟨hg, e⟩ := e
      have hg := Nat.eq_of_beq_eq_true hg
      replace e := ifB_ok e; obtain ⟨hle, e⟩ := e
      have hle := Nat.le_of_ble_eq_true hle
      obtain ⟨cs, e, h4, h5⟩ := getsK_specO _ _ _ _ _ e
      replace e := onOpt_ok e; obtain ⟨bs, hbs, e⟩ := e
      rw [zipK_eq] at e
      obtain ⟨H1, h6, h7⟩ := setK_spec H l (.ro g mm t) (fun H => OR.ok (.str (Sb.of bs)) H)
      rw [h6] at e
      simp at e
      obtain ⟨rfl, rfl⟩ := e
      obtain ⟨arr, E, fz, a1, a2, a3, a4, a5, a6⟩ := m.obj l p _ hp ho
      obtain ⟨rfl, hbase⟩ : e0 = E ∧ p.base = 0 := by
        rcases a6 with h | ⟨h, hb⟩
        · rw [h] at hg; simp at hg
        · rw [h] at hg; exact ⟨by simpa using hg.symm, hb⟩
      obtain ⟨xs, b1, b2, b3⟩ := a5.list (by omega) h4 h5
      obtain ⟨rfl, hb256⟩ := bytesOfL_spec hbs
      have hxs := reps_bytes b1
      have hbl : bs.length = n := by simpa using h4
      have hn0 : n ≠ 0 := by omega
      obtain ⟨fz', c1, c2, c3, c4⟩ := freeze_heap (w := w) (n := n) a1 hn0
      have hsh : w.shape? p.b = some (e0, arr.size) := by unfold World.shape?; rw [a1]
      have harr : n ≤ arr.size := by
        have hlast : xs[n - 1]? = some (Value.int .u8 (Int.ofNat (bs[n - 1]'(by omega)))) := by
          rw [hxs]
          simp [List.getElem?_eq_getElem (show n - 1 < bs.length by omega)]
        have := (Array.getElem?_eq_some_iff.1 (b3 _ _ hlast)).1
        omega
      have hcells : ∀ j y, (bs.map UInt8.ofNat)[j]? = some y → w.cell? ((⟨p.b, 0, none⟩ : Addr).add j) = some (.int .u8 y.toNat) := by
        intro j y hj
        have hjl : j < bs.length := by have := (List.getElem?_eq_some_iff.1 hj).1; simpa using this
        have hy : y = UInt8.ofNat bs[j] := by
          rw [List.getElem?_map, List.getElem?_eq_getElem hjl] at hj
          simpa using hj.symm
        have hx : xs[j]? = some (Value.int .u8 (Int.ofNat bs[j])) := by
          rw [hxs]
          simp [List.getElem?_eq_getElem hjl]
        have h9 := b3 j _ hx
        rw [show p.base + 0 + j = j by omega] at h9
        have hlt := hb256 bs[j] (List.getElem_mem hjl)
        have hyt : (y.toNat : Int) = Int.ofNat bs[j] := by
          rw [hy]; simp; omega
        rw [hyt, Addr.add_mid, cell_of rfl a1, Nat.zero_add]
        exact h9
      have hrun := Go.Lib.run_unsafeString_row (P := P) w ti.t it ty e0 hd hcell p.b arr.size hsh (bs.map UInt8.ofNat) (by intro h; simp at h; subst h; simp at hbl; omega) (by simp; omega) (by simp; omega) hcells
      simp only [List.length_map, hbl] at hrun
      have hw : Mem N h0 Γ (w.freeze ⟨p.b, 0, none⟩ n).heap H1 := mem_upd (o' := .ro g mm t) m hp ho rfl c2 c3 ⟨arr, e0, fz', c1, a2, a5, a6⟩ h7
      refine ⟨_, Γ, _, .inl ?_, ⟨Gle.refl Γ, hw, by rw [h7.1]; exact Nat.le_refl _, fun _ _ h => h, c4⟩, Rep.ofL hb256⟩
      rw [hbase]
      show (do pure (.value (← Builtin.unsafeString_ #[ti.t, it] ty #[.pointer (some ⟨p.b, 0 + 0, none⟩), .int .i64 (n : Int)])) : Sem Next).run P w = _
      simp only [Sem.run_bind, Nat.add_zero, hrun, Result.andThen_ok]
      rfl
    · rename_i g mm t
      replace e := ifB_ok e; obtain ⟨hg, e⟩ := e
      have hg := Nat.eq_of_beq_eq_true hg
      replace e := ifB_ok e; obtain ⟨hle, e⟩ := e
      have hle := Nat.le_of_ble_eq_true hle
      obtain ⟨cs, e, h4, h5⟩ := getsK_specO _ _ _ _ _ e
      replace e := onOpt_ok e; obtain ⟨bs, hbs, e⟩ := e
      rw [zipK_eq] at e
      obtain ⟨H1, h6, h7⟩ := setK_spec H l (.ro g mm t) (fun H => OR.ok (.str (Sb.of bs)) H)
      rw [h6] at e
      simp at e
      obtain ⟨rfl, rfl⟩ := e
      obtain ⟨arr, E, fz, a1, a2, a5, a6⟩ := m.obj l p _ hp ho
      obtain ⟨rfl, hbase⟩ : e0 = E ∧ p.base = 0 := by
        rcases a6 with h | ⟨h, hb⟩
        · rw [h] at hg; simp at hg
        · rw [h] at hg; exact ⟨by simpa using hg.symm, hb⟩
      obtain ⟨xs, b1, b2, b3⟩ := a5.list (by omega) h4 h5
      obtain ⟨rfl, hb256⟩ := bytesOfL_spec hbs
      have hxs := reps_bytes b1
      have hbl : bs.length = n := by simpa using h4
      have hn0 : n ≠ 0 := by omega
      obtain ⟨fz', c1, c2, c3, c4⟩ := freeze_heap (w := w) (n := n) a1 hn0
      have hsh : w.shape? p.b = some (e0, arr.size) := by unfold World.shape?; rw [a1]
      have harr : n ≤ arr.size := by
        have hlast : xs[n - 1]? = some (Value.int .u8 (Int.ofNat (bs[n - 1]'(by omega)))) := by
          rw [hxs]
          simp [List.getElem?_eq_getElem (show n - 1 < bs.length by omega)]
        have := (Array.getElem?_eq_some_iff.1 (b3 _ _ hlast)).1
        omega
      have hcells : ∀ j y, (bs.map UInt8.ofNat)[j]? = some y → w.cell? ((⟨p.b, 0, none⟩ : Addr).add j) = some (.int .u8 y.toNat) := by
        intro j y hj
        have hjl : j < bs.length := by have := (List.getElem?_eq_some_iff.1 hj).1; simpa using this
        have hy : y = UInt8.ofNat bs[j] := by
          rw [List.getElem?_map, List.getElem?_eq_getElem hjl] at hj
          simpa using hj.symm
        have hx : xs[j]? = some (Value.int .u8 (Int.ofNat bs[j])) := by
          rw [hxs]
          simp [List.getElem?_eq_getElem hjl]
        have h9 := b3 j _ hx
        rw [show p.base + 0 + j = j by omega] at h9
        have hlt := hb256 bs[j] (List.getElem_mem hjl)
        have hyt : (y.toNat : Int) = Int.ofNat bs[j] := by
          rw [hy]; simp; omega
        rw [hyt, Addr.add_mid, cell_of rfl a1, Nat.zero_add]
        exact h9
      have hrun := Go.Lib.run_unsafeString_row (P := P) w ti.t it ty e0 hd hcell p.b arr.size hsh (bs.map UInt8.ofNat) (by intro h; simp at h; subst h; simp at hbl; omega) (by simp; omega) (by simp; omega) hcells
      simp only [List.length_map, hbl] at hrun
      have hw : Mem N h0 Γ (w.freeze ⟨p.b, 0, none⟩ n).heap H1 := mem_upd (o' := .ro g mm t) m hp ho rfl c2 c3 ⟨arr, e0, fz', c1, a2, a5, a6⟩ h7
      refine ⟨_, Γ, _, .inl ?_, ⟨Gle.refl Γ, hw, by rw [h7.1]; exact Nat.le_refl _, fun _ _ h => h, c4⟩, Rep.ofL hb256⟩
      rw [hbase]
      show (do pure (.value (← Builtin.unsafeString_ #[ti.t, it] ty #[.pointer (some ⟨p.b, 0 + 0, none⟩), .int .i64 (n : Int)])) : Sem Next).run P w = _
      simp only [Sem.run_bind, Nat.add_zero, hrun, Result.andThen_ok]
      rfl
    · simp at e
  · simp at e
end
end Go.Rx

/- Closed runs: operations. -/
namespace Go.Rx

abbrev Cee := FuncId → List RV → HT → OR

noncomputable def okV (o : Option RV) (H : HT) : OR := onOpt o .bad fun v => .ok v H

noncomputable def minV (x y : RV) : Option RV :=
  match x, y with
  | .int k a, .int k' b => ifB (kindEq k k') (some (.int k (ifB (ltI b a) b a))) none
  | _, _ => none
noncomputable def maxV (x y : RV) : Option RV :=
  match x, y with
  | .int k a, .int k' b => ifB (kindEq k k') (some (.int k (ifB (ltI a b) b a))) none
  | _, _ => none

noncomputable def builtinV (tt : T RTI) (b : Builtin) (ts : List TypeId) (vs : List RV) (H : HT) : OR :=
  match b, ts, vs with
  | .len, [t], [x] => okV (lenV tt H t x) H
  | .cap, [t], [x] => okV (capV tt t x) H
  | .append, [t, u], [x, y] => (match x, y with | .slnil, .int _ (.ofNat n) => growV tt H t u n | _, _ => appendV tt H t u x y)
  | .copy, [t, _], [x, y] => copyV tt H t x y
  | .delete, [t, _], [x, y] => deleteV tt H t x y
  | .min, _, [x, y] => okV (minV x y) H
  | .max, _, [x, y] => okV (maxV x y) H
  | .clear, [t], [x] => clearV tt H t x
  | .unsafeSliceData, _, [x] => sliceDataV x H
  | .unsafeString, [pt, _], [x, y] => unsafeStringV tt H pt x y
  | _, _, _ => .bad

noncomputable def callV (C : Cee) (env : T RV) (f : Operand) (args : List Operand) (H : HT) : OR :=
  onOpt (ev env f) .bad fun u => match u with
    | .func g caps => onOpt (evs env args) .bad fun vs => appK vs caps fun vs => C g vs H
    | _ => .bad

noncomputable def pickV (c a b : RV) : Option RV :=
  match c with
  | .bool t => some (ifB t a b)
  | _ => none

noncomputable def ev1 (env : T RV) (x : Operand) (k : RV → OR) : OR := onOpt (ev env x) .bad k
noncomputable def ev2 (env : T RV) (x y : Operand) (k : RV → RV → OR) : OR := onOpt (ev env x) .bad fun u => onOpt (ev env y) .bad fun v => k u v
noncomputable def ev3 (env : T RV) (x y z : Operand) (k : RV → RV → RV → OR) : OR := onOpt (ev env x) .bad fun u => onOpt (ev env y) .bad fun v => onOpt (ev env z) .bad fun r => k u v r

section
variable (tt : T RTI) (C : Cee)

noncomputable def allocO (H : HT) (t : TypeId) : OR := tyK tt t .bad fun ti => onOpt ti.z .bad fun z => allocV H (Nat.succ t) z
noncomputable def boxO (H : HT) (v : RV) : OR := ifB v.ok1 (allocV H 0 v.cells) .bad
noncomputable def loadO (H : HT) (t : TypeId) (x : RV) : OR := tyK tt t .bad fun ti => okV (loadV ti H x) H
noncomputable def storeO (H : HT) (t : TypeId) (x y : RV) : OR := tyK tt t .bad fun ti => storeV ti H x y
noncomputable def makeMapO (H : HT) (t : TypeId) : OR := tyK tt t .bad fun ti => match ti.d with
  | .map _ _ => HT.newK H (.map [] [] 0) fun l H => .ok (.map l) H
  | _ => .bad

noncomputable def makeFuncO (env : T RV) (H : HT) (fn : Fn) (first captured : List Operand) : OR :=
  match fn, first with
  | .func f, [] => okV (onOpt (evs env captured) none fun vs => some (.func f vs)) H
  | _, _ => .bad
noncomputable def makeMapR (env : T RV) (H : HT) (t : TypeId) (r : Option Operand) : OR :=
  match r with
  | none => makeMapO tt H t
  | some x => ev1 env x fun u => match u with | .int _ _ => makeMapO tt H t | _ => .bad
noncomputable def sliceO (env : T RV) (H : HT) (t : TypeId) (x : Operand) (lo hi mx : Option Operand) : OR :=
  match mx with
  | none => ev1 env x fun u => onOpt (optEv env lo) .bad fun l => onOpt (optEv env hi) .bad fun h => okV (sliceV tt t u l h) H
  | some _ => .bad

/-- Of two interfaces without anything, one a constant. -/
noncomputable def nilN (op : BinOp) (t : TypeId) : Option RV := tyK tt t none fun ti => match ti.d with
  | .iface => (match op with | .eql => some (.bool true) | .neq => some (.bool false) | _ => none)
  | _ => none
noncomputable def isK (o : Operand) : Bool := match o with | .const _ => true | _ => false
noncomputable def binN (op : BinOp) (t : TypeId) (x y : Operand) (u v : RV) : Option RV :=
  match u with
  | .nili => (match v with | .nili => ifB (isK x) (nilN tt op t) (ifB (isK y) (nilN tt op t) none) | _ => none)
  | u => binV tt op t u v
theorem binN_ne {op : BinOp} {t : TypeId} {x y : Operand} {u v : RV} (h : u ≠ .nili) : binN tt op t x y u v = binV tt op t u v := by
  unfold binN
  split
  · exact absurd rfl h
  · rfl
theorem binN_of {op : BinOp} {t : TypeId} {x y : Operand} {u v z : RV} (h : binV tt op t u v = some z) : binN tt op t x y u v = some z := by
  rw [binN_ne]
  · exact h
  · intro e; subst e
    unfold binV at h
    split at h <;> simp_all

noncomputable def opV (env : T RV) (H : HT) (op : Op) : OR :=
  match op with
  | .move x => okV (ev env x) H
  | .assign x => okV (ev env x) H
  | .pick c a b => ev3 env c a b fun c a b => okV (pickV c a b) H
  | .alloc t => allocO tt H t
  | .box _ x => ev1 env x fun v => boxO H v
  | .build t parts => okV (buildV tt env t parts.toList) H
  | .buildSlice t len parts => buildSliceV tt env H t len parts.toList
  | .load t x => ev1 env x fun u => loadO tt H t u
  | .store t x y => ev2 env x y fun u v => storeO tt H t u v
  | .nilCheck x => ev1 env x fun u => okV (nilV u) H
  | .binOp op t x y _ => ev2 env x y fun u v => okV (binN tt op t x y u v) H
  | .unOp op _ x => ev1 env x fun u => okV (unV op u) H
  | .convert src dst x => ev1 env x fun u => convertV tt H src dst u
  | .makeFunc fn first captured => makeFuncO env H fn first.toList captured.toList
  | .makeMap t r => makeMapR tt env H t r
  | .makeSlice t l c => ev2 env l c fun u v => makeSliceV tt H t u v
  | .slice t x lo hi mx => sliceO tt env H t x lo hi mx
  | .fieldAddr t x f => ev1 env x fun u => okV (fieldAddrV tt t u f) H
  | .field t x f => ev1 env x fun u => okV (fieldV tt t u f) H
  | .indexAddr t x i => ev2 env x i fun u v => okV (indexAddrV tt t u v) H
  | .index t x i => ev2 env x i fun u v => okV (indexV tt t u v) H
  | .lookup t x i ok => ev2 env x i fun u v => okV (lookupV tt H t u v ok) H
  | .mapUpdate t m k x => ev3 env m k x fun m k x => mapUpdateV tt H t m k x
  | .insert t m k x => ev3 env m k x fun m k x => mapUpdateV tt H t m k x
  | .extract x i => ev1 env x fun u => okV (extractV u i) H
  | .mapEntry t m k => ev2 env m k fun m k => mapEntryV tt H t m k
  | .entryStore _ m k x => ev3 env m k x fun m k x => entryStoreV H m k x
  | .range t x => ev1 env x fun u => rangeV tt H t u
  | .next x s => ev1 env x fun u => nextV H u s
  | .entry x => ev1 env x fun u => okV (entryV H u) H
  | .call c => match c.callee with
      | .builtin b => onOpt (evs env c.args.toList) .bad fun vs => builtinV tt b c.argTypes.toList vs H
      | .value f => callV C env f c.args.toList H
      | _ => .bad
  | _ => .bad
end

/-! ### What they say of the machine -/
section
variable {P : Program} {N : Nat} {h0 : Heap} {Γ : Gm} {w : World} {H H' : HT} {tt : T RTI} {C : Cee} {env : T RV} {a : Act}

theorem binN_run (hT : TtOk P tt) {op : BinOp} {t : TypeId} {ox oy : Operand} {x y v : RV} {a b : Value} (e : binN tt op t ox oy x y = some v) (ra : Rep Γ x a) (rb : Rep Γ y b) :
    ∃ z, (do eqGuard op t ox oy a b; binOp op t a b : Sem Value).run P w = .ok z w ∧ Rep Γ v z := by
  unfold binN at e
  split at e
  · split at e
    · cases ra; cases rb
      have hk : (isK ox = true ∨ isK oy = true) ∧ nilN tt op t = some v := by
        rw [ifB_eq] at e
        split at e
        · rename_i h; exact ⟨.inl h, e⟩
        · rw [ifB_eq] at e
          split at e
          · rename_i h; exact ⟨.inr h, e⟩
          · simp at e
      clear e
      obtain ⟨hk, e⟩ := hk
      unfold nilN at e
      replace e := tyK_some e; obtain ⟨ti, hti, e⟩ := e
      obtain ⟨tok, rfl⟩ := hT _ _ hti
      have hd := tok.d
      have hg : ∀ op, (eqGuard op ti.t ox oy .nilIface .nilIface).run P w = .ok () w := by
        intro op
        rcases hk with h | h
        · cases ox <;> simp [isK] at h
          cases op <;> simp [eqGuard]
        · cases oy <;> simp [isK] at h
          cases op <;> cases ox <;> simp [eqGuard]
      split at e
      · rename_i hdd
        rw [hdd] at hd
        obtain ⟨ms, hd⟩ := hd
        have heq : (Op.equal ti.t .nilIface .nilIface).run P w = .ok true w := by
          show (Op.equalIn (9999 + 1) ti.t .nilIface .nilIface).run P w = _
          unfold Op.equalIn
          simp only [Sem.run_bind, run_underlying hd, Result.andThen_ok]
          rfl
        split at e
        · simp at e; subst e
          refine ⟨.bool true, ?_, .bool true⟩
          simp only [Sem.run_bind, hg, Result.andThen_ok]
          simp [binOp, heq]
        · simp at e; subst e
          refine ⟨.bool false, ?_, .bool false⟩
          simp only [Sem.run_bind, hg, Result.andThen_ok]
          simp [binOp, heq]
        · simp at e
      · simp at e
    · simp at e
  · exact binV_run hT e ra rb
/-- A call answers so. -/
def CallR (P : Program) (f : FuncId) (args : List RV) (H : HT) (v : RV) (H' : HT) : Prop :=
  ∀ (N : Nat) (h0 : Heap) (Γ : Gm) (w : World) (xs : List Value), Mem N h0 Γ w.heap H → Reps Γ args xs →
    match (callFunc f ⟨xs⟩).run P w with
    | .ok (.enter g ys) w1 => Calls P g ys w1 fun e w' => ∃ x Γ', e = .returned x ∧ Ext N h0 Γ w H Γ' w' H' ∧ Rep Γ' v x
    | .ok (.value x) w' => ∃ Γ', Ext N h0 Γ w H Γ' w' H' ∧ Rep Γ' v x
    | _ => False

def SoundR (P : Program) (C : Cee) : Prop := ∀ f args H v H', C f args H = .ok v H' → CallR P f args H v H'

def Does (P : Program) (N : Nat) (h0 : Heap) (Γ : Gm) (w : World) (H : HT) (o : Oper) (a : Act) (v : RV) (H' : HT) : Prop :=
  ∀ Q, o.wp P a w (fun a' w' => ∃ x Γ', a' = a.put o.dst x ∧ Ext N h0 Γ w H Γ' w' H' ∧ Rep Γ' v x) Q

theorem Does.of_done {o : Oper} {v : RV} (h : Done N h0 Γ w H ((execOp a.eval o).run P w) v H') : Does P N h0 Γ w H o a v H' := by
  intro Q
  obtain ⟨y, Γ', w', hr, x, r⟩ := h
  unfold Oper.wp
  rcases hr with hr | ⟨hr, rfl⟩
  · rw [hr]; exact ⟨y, Γ', rfl, x, r⟩
  · rw [hr]; exact ⟨Go.undef, Γ', rfl, x, r⟩

theorem okV_ok {o : Option RV} {v : RV} (e : okV o H = .ok v H') : o = some v ∧ H' = H := by
  unfold okV at e
  replace e := onOpt_ok e; obtain ⟨u, h1, e⟩ := e
  simp at e
  obtain ⟨rfl, rfl⟩ := e
  exact ⟨h1, rfl⟩
theorem ev1_ok {x : Operand} {k : RV → OR} {v : RV} (e : ev1 env x k = .ok v H') : ∃ u, ev env x = some u ∧ k u = .ok v H' := onOpt_ok e
theorem ev2_ok {x y : Operand} {k : RV → RV → OR} {v : RV} (e : ev2 env x y k = .ok v H') : ∃ u u', ev env x = some u ∧ ev env y = some u' ∧ k u u' = .ok v H' := by
  unfold ev2 at e
  replace e := onOpt_ok e; obtain ⟨u, h1, e⟩ := e
  replace e := onOpt_ok e; obtain ⟨u', h2, e⟩ := e
  exact ⟨u, u', h1, h2, e⟩
theorem ev3_ok {x y z : Operand} {k : RV → RV → RV → OR} {v : RV} (e : ev3 env x y z k = .ok v H') : ∃ u u' u'', ev env x = some u ∧ ev env y = some u' ∧ ev env z = some u'' ∧ k u u' u'' = .ok v H' := by
  unfold ev3 at e
  replace e := onOpt_ok e; obtain ⟨u, h1, e⟩ := e
  replace e := onOpt_ok e; obtain ⟨u', h2, e⟩ := e
  replace e := onOpt_ok e; obtain ⟨u'', h3, e⟩ := e
  exact ⟨u, u', u'', h1, h2, h3, e⟩

theorem minV_run {x y v : RV} {xa ya : Value} {ts : Array TypeId} {t : TypeId} (ra : Rep Γ x xa) (rb : Rep Γ y ya) (e : minV x y = some v) : ∃ z, (Builtin.min_ ts t #[xa, ya]).run P w = .ok z w ∧ Rep Γ v z := by
  unfold minV at e
  split at e
  · rename_i k p k' q
    replace e := ifB_some e; obtain ⟨_, e⟩ := e
    simp at e; subst e
    obtain rfl := rep_int ra; obtain rfl := rep_int rb
    refine ⟨.int k (if q < p then q else p), by simp [Builtin.min_, Builtin.min2], ?_⟩
    rw [ltI_eq, ifB_eq]; simp; exact .int _ _
  · simp at e
theorem maxV_run {x y v : RV} {xa ya : Value} {ts : Array TypeId} {t : TypeId} (ra : Rep Γ x xa) (rb : Rep Γ y ya) (e : maxV x y = some v) : ∃ z, (Builtin.max_ ts t #[xa, ya]).run P w = .ok z w ∧ Rep Γ v z := by
  unfold maxV at e
  split at e
  · rename_i k p k' q
    replace e := ifB_some e; obtain ⟨_, e⟩ := e
    simp at e; subst e
    obtain rfl := rep_int ra; obtain rfl := rep_int rb
    refine ⟨.int k (if q > p then q else p), by simp [Builtin.max_, Builtin.max2], ?_⟩
    rw [ltI_eq, ifB_eq]; simp; exact .int _ _
  · simp at e

theorem builtinV_done (hT : TtOk P tt) {b : Builtin} {ts : Array TypeId} {t : TypeId} {cs : Array Bool} {vs : List RV} {xs : List Value} {v : RV} (m : Mem N h0 Γ w.heap H) (r : Reps Γ vs xs) (e : builtinV tt b ts.toList vs H = .ok v H') :
    Done N h0 Γ w H ((builtin b ts t cs ⟨xs⟩).run P w) v H' := by
  obtain ⟨ts⟩ := ts
  unfold builtinV at e
  have one : ∀ {x : RV}, Reps Γ [x] xs → ∃ y, xs = [y] ∧ Rep Γ x y := fun {x} r => by
    obtain ⟨y, ys, rfl, h1, h2⟩ := r.inv_cons
    obtain rfl := h2.inv_nil
    exact ⟨y, rfl, h1⟩
  have two : ∀ {x x' : RV}, Reps Γ [x, x'] xs → ∃ y y', xs = [y, y'] ∧ Rep Γ x y ∧ Rep Γ x' y' := fun {x x'} r => by
    obtain ⟨y, ys, rfl, h1, h2⟩ := r.inv_cons
    obtain ⟨y', ys', rfl, h3, h4⟩ := h2.inv_cons
    obtain rfl := h4.inv_nil
    exact ⟨y, y', rfl, h1, h3⟩
  split at e
  · rename_i t1 x hts
    simp only at hts; subst hts
    obtain ⟨h1, rfl⟩ := okV_ok e
    obtain ⟨y, rfl, ry⟩ := one r
    obtain ⟨z, h2, h3⟩ := lenV_run (P := P) (ty := t) hT m ry h1
    exact done_value h2 m h3
  · rename_i t1 x hts
    simp only at hts; subst hts
    obtain ⟨h1, rfl⟩ := okV_ok e
    obtain ⟨y, rfl, ry⟩ := one r
    obtain ⟨z, h2, h3⟩ := capV_run (P := P) (w := w) (ty := t) hT ry h1
    exact done_value h2 m h3
  · rename_i t1 u x y hts
    simp only at hts; subst hts
    obtain ⟨y, y', rfl, r1, r2⟩ := two r
    split at e
    · obtain rfl := rep_slnil r1; obtain rfl := rep_int r2
      exact growV_done hT m e
    · exact appendV_done hT m r1 r2 e
  · rename_i t1 u x y hts
    simp only at hts; subst hts
    obtain ⟨y, y', rfl, r1, r2⟩ := two r
    exact copyV_done hT m r1 r2 e
  · rename_i t1 u x y hts
    simp only at hts; subst hts
    obtain ⟨y, y', rfl, r1, r2⟩ := two r
    exact deleteV_done hT m r1 r2 e
  · obtain ⟨h1, rfl⟩ := okV_ok e
    obtain ⟨y, y', rfl, r1, r2⟩ := two r
    obtain ⟨z, h2, h3⟩ := minV_run (P := P) (w := w) (ts := ⟨ts⟩) (t := t) r1 r2 h1
    exact done_value h2 m h3
  · obtain ⟨h1, rfl⟩ := okV_ok e
    obtain ⟨y, y', rfl, r1, r2⟩ := two r
    obtain ⟨z, h2, h3⟩ := maxV_run (P := P) (w := w) (ts := ⟨ts⟩) (t := t) r1 r2 h1
    exact done_value h2 m h3
  · rename_i t1 x hts
    simp only at hts; subst hts
    obtain ⟨y, rfl, ry⟩ := one r
    exact clearV_done hT m ry e
  · obtain ⟨y, rfl, ry⟩ := one r
    exact sliceDataV_done m ry e
  · rename_i pt it x y hts
    simp only at hts; subst hts
    obtain ⟨y, y', rfl, r1, r2⟩ := two r
    exact unsafeStringV_done hT m r1 r2 e
  · simp at e

theorem call_run {f : Operand} {args : Array Operand} {ts : Array TypeId} {t : TypeId} {g : FuncId} {cs : List Value} (hf : a.eval f = .func (.func g) #[] ⟨cs⟩) :
    (do let d ← resolve a.eval { callee := .value f, args, argTypes := ts } t; invoke d.target d.args : Sem Next).run P w = (callFunc g ⟨args.toList.map a.eval ++ cs⟩).run P w := by
  simp only [resolve, hf, Deferred.ofValue, Sem.run_bind, Sem.run_pure, Result.andThen_ok, invoke]
  have e2 : (#[] ++ Array.map a.eval args ++ { toList := cs } : Array Value) = ⟨args.toList.map a.eval ++ cs⟩ := by apply Array.ext'; simp
  rw [e2]

theorem Does.of_call {o : Oper} {v : RV} {f : FuncId} {xs : List Value} {args : List RV} (hr : (execOp a.eval o).run P w = (callFunc f ⟨xs⟩).run P w) (hc : CallR P f args H v H')
    (m : Mem N h0 Γ w.heap H) (ra : Reps Γ args xs) : Does P N h0 Γ w H o a v H' := by
  intro Q
  unfold Oper.wp
  have := hc N h0 Γ w xs m ra
  rw [hr]
  generalize (callFunc f ⟨xs⟩).run P w = r at *
  cases r with
  | halt h w' => exact this.elim
  | ok nx w' =>
    cases nx with
    | value x =>
      obtain ⟨Γ', h1, h2⟩ := this
      exact ⟨x, Γ', rfl, h1, h2⟩
    | enter g ys =>
      refine Calls.mono this fun e w'' he => ?_
      obtain ⟨x, Γ', rfl, l, r⟩ := he
      exact ⟨x, Γ', rfl, l, r⟩
    | _ => exact this.elim

theorem opV_done (hT : TtOk P tt) (hC : SoundR P C) {o : Oper} {v : RV} (m : Mem N h0 Γ w.heap H) (re : EvOk Γ env a o.op.operands.toList) (e : opV tt C env H o.op = .ok v H') : Does P N h0 Γ w H o a v H' := by
  obtain ⟨dst, op, ty, pos, after, guard⟩ := o
  simp only at e re
  cases op <;> simp only [opV] at e
  case move x => obtain ⟨h1, rfl⟩ := okV_ok e; exact .of_done (Done.same (y := a.eval x) (by simp [execOp]) m (re x (by simp [Op.operands]) v h1))
  case assign x => obtain ⟨h1, rfl⟩ := okV_ok e; exact .of_done (Done.same (y := a.eval x) (by simp [execOp]) m (re x (by simp [Op.operands]) v h1))
  case pick c x y =>
    replace e := ev3_ok e; obtain ⟨u, u', u'', h1, h2, h3, e⟩ := e
    obtain ⟨h4, rfl⟩ := okV_ok e
    have r1 := re c (by simp [Op.operands]) u h1
    have r2 := re x (by simp [Op.operands]) u' h2
    have r3 := re y (by simp [Op.operands]) u'' h3
    unfold pickV at h4
    split at h4
    · rename_i t
      simp at h4; subst h4
      have hc := rep_bool r1
      cases t with
      | true => exact .of_done (Done.same (y := a.eval x) (by simp [execOp, hc, asBool]) m r2)
      | false => exact .of_done (Done.same (y := a.eval y) (by simp [execOp, hc, asBool]) m r3)
    · simp at h4
  case alloc t =>
    unfold allocO at e
    replace e := tyK_ok e; obtain ⟨ti, hti, e⟩ := e
    replace e := onOpt_ok e; obtain ⟨z, hz, e⟩ := e
    exact .of_done (by simpa only [execOp] using alloc_done hT hti hz m e)
  case box t x =>
    replace e := ev1_ok e; obtain ⟨u, h1, e⟩ := e
    unfold boxO at e
    replace e := ifB_ok e; obtain ⟨hk, e⟩ := e
    exact .of_done (by simpa only [execOp] using box_done (re x (by simp [Op.operands]) u h1) hk m e)
  case build t parts =>
    obtain ⟨h1, rfl⟩ := okV_ok e
    have := buildV_done (a := a) hT (re.sub (by simp [Op.operands])) m h1
    refine .of_done ?_
    simp only [execOp]
    have e2 : (parts.map fun (i, x) => (i, a.eval x)) = ⟨parts.toList.map fun p => (p.1, a.eval p.2)⟩ := by apply Array.ext'; simp
    rw [e2]; exact this
  case buildSlice t len parts =>
    have := buildSliceV_done (a := a) hT (re.sub (by simp [Op.operands])) m e
    refine .of_done ?_
    simp only [execOp]
    have e2 : (parts.map fun (i, x) => (i, a.eval x)) = ⟨parts.toList.map fun p => (p.1, a.eval p.2)⟩ := by apply Array.ext'; simp
    rw [e2]; exact this
  case load t x =>
    replace e := ev1_ok e; obtain ⟨u, h1, e⟩ := e
    unfold loadO at e
    replace e := tyK_ok e; obtain ⟨ti, hti, e⟩ := e
    obtain ⟨h2, rfl⟩ := okV_ok e
    obtain ⟨tok, rfl⟩ := hT _ _ hti
    obtain ⟨y, h3, h4⟩ := loadV_run (P := P) m tok (re x (by simp [Op.operands]) u h1) h2
    exact .of_done (done_value h3 m h4)
  case store t x y =>
    replace e := ev2_ok e; obtain ⟨u, u', h1, h2, e⟩ := e
    unfold storeO at e
    replace e := tyK_ok e; obtain ⟨ti, hti, e⟩ := e
    obtain ⟨tok, rfl⟩ := hT _ _ hti
    exact .of_done (by simpa only [execOp] using storeV_done tok m (re x (by simp [Op.operands]) u h1) (re y (by simp [Op.operands]) u' h2) e)
  case nilCheck x =>
    replace e := ev1_ok e; obtain ⟨u, h1, e⟩ := e
    obtain ⟨h2, rfl⟩ := okV_ok e
    have r1 := re x (by simp [Op.operands]) u h1
    unfold nilV at h2
    split at h2
    · simp at h2; subst h2
      obtain ⟨p, hp, hx⟩ := rep_ptr r1
      exact .of_done (Done.same (y := a.eval x) (by simp [execOp, hx]) m r1)
    · simp at h2; subst h2
      obtain ⟨xs, _, hx⟩ := rep_func r1
      exact .of_done (Done.same (y := a.eval x) (by simp [execOp, hx]) m r1)
    · simp at h2
  case binOp op t x y yt =>
    replace e := ev2_ok e; obtain ⟨u, u', h1, h2, e⟩ := e
    obtain ⟨h3, rfl⟩ := okV_ok e
    obtain ⟨z, h4, h5⟩ := binN_run (P := P) (w := w) hT h3 (re x (by simp [Op.operands]) u h1) (re y (by simp [Op.operands]) u' h2)
    exact .of_done (done_value h4 m h5)
  case unOp op t x =>
    replace e := ev1_ok e; obtain ⟨u, h1, e⟩ := e
    obtain ⟨h3, rfl⟩ := okV_ok e
    obtain ⟨z, h4, h5⟩ := unV_run (P := P) (w := w) (re x (by simp [Op.operands]) u h1) h3
    exact .of_done (done_value h4 m h5)
  case convert src dst x =>
    replace e := ev1_ok e; obtain ⟨u, h1, e⟩ := e
    exact .of_done (convertV_done hT m (re x (by simp [Op.operands]) u h1) e)
  case makeFunc fn first captured =>
    unfold makeFuncO at e
    split at e
    · rename_i f hf0
      obtain ⟨h1, rfl⟩ := okV_ok e
      replace h1 := onOpt_some_of h1; obtain ⟨vs, h2, h1⟩ := h1
      simp at h1; subst h1
      have hf : first = #[] := by apply Array.ext'; simpa using hf0
      subst hf
      have r := EvOk.evs (re.sub (xs := captured.toList) (by simp [Op.operands])) h2
      refine .of_done (Done.same (y := .func (.func f) #[] ⟨captured.toList.map a.eval⟩) ?_ m (.func f vs _ r.1 r.2))
      have e2 : captured.map a.eval = ⟨captured.toList.map a.eval⟩ := by apply Array.ext'; simp
      simp [execOp, Instr.makeFunc, e2]
    · simp at e
  case makeMap t r =>
    have mk : ∀ {H' : HT} {v : RV}, makeMapO tt H t = .ok v H' → (∃ k e0, P.underlying t = some (.map k e0)) ∧ (HT.newK H (.map [] [] 0) fun l H => OR.ok (.map l) H) = .ok v H' := fun {H' v} e1 => by
      unfold makeMapO at e1
      replace e1 := tyK_ok e1; obtain ⟨ti, hti, e1⟩ := e1
      obtain ⟨tok, htt⟩ := hT _ _ hti
      have hd := tok.d
      rw [htt] at hd
      split at e1
      · rename_i k e0 hdd
        rw [hdd] at hd
        exact ⟨⟨k, e0, hd⟩, e1⟩
      · simp at e1
    unfold makeMapR at e
    split at e
    · obtain ⟨_, e⟩ := mk e
      exact .of_done (by simpa only [execOp, Option.map_none] using newMap_done m e)
    · rename_i x
      replace e := ev1_ok e; obtain ⟨u, h1, e⟩ := e
      split at e
      · rename_i q z
        obtain ⟨⟨k, e0, hu⟩, e⟩ := mk e
        have hx := rep_int (re x (by simp [Op.operands]) _ h1)
        refine .of_done ?_
        have := newMapR_done (P := P) (q := q) (z := z) hu m e
        simpa only [execOp, Option.map_some, hx] using this
      · simp at e
  case makeSlice t l c =>
    replace e := ev2_ok e; obtain ⟨u, u', h1, h2, e⟩ := e
    exact .of_done (makeSliceV_done hT m (re l (by simp [Op.operands]) u h1) (re c (by simp [Op.operands]) u' h2) e)
  case slice t x lo hi mx =>
    unfold sliceO at e
    split at e
    · replace e := ev1_ok e; obtain ⟨u, h1, e⟩ := e
      replace e := onOpt_ok e; obtain ⟨l, hl, e⟩ := e
      replace e := onOpt_ok e; obtain ⟨h, hh, e⟩ := e
      obtain ⟨h3, rfl⟩ := okV_ok e
      have rl := EvOk.opt (a := a) (re.sub (xs := lo.toList) (by intro y hy; simp only [Op.operands, Array.toList_append]; cases lo <;> simp_all)) hl
      have rh := EvOk.opt (a := a) (re.sub (xs := hi.toList) (by intro y hy; simp only [Op.operands, Array.toList_append]; cases hi <;> simp_all)) hh
      obtain ⟨z, h4, h5⟩ := sliceV_run (P := P) (w := w) hT (re x (by simp [Op.operands]) u h1) rl rh h3
      exact .of_done (done_value h4 m h5)
    · simp at e
  case fieldAddr t x f =>
    replace e := ev1_ok e; obtain ⟨u, h1, e⟩ := e
    obtain ⟨h3, rfl⟩ := okV_ok e
    obtain ⟨z, h4, h5⟩ := fieldAddrV_run (P := P) (w := w) hT (re x (by simp [Op.operands]) u h1) h3
    exact .of_done (done_value h4 m h5)
  case field t x f =>
    replace e := ev1_ok e; obtain ⟨u, h1, e⟩ := e
    obtain ⟨h3, rfl⟩ := okV_ok e
    obtain ⟨z, h4, h5⟩ := fieldV_run (P := P) (w := w) hT (re x (by simp [Op.operands]) u h1) h3
    exact .of_done (done_value h4 m h5)
  case indexAddr t x i =>
    replace e := ev2_ok e; obtain ⟨u, u', h1, h2, e⟩ := e
    obtain ⟨h3, rfl⟩ := okV_ok e
    obtain ⟨z, h4, h5⟩ := indexAddrV_run (P := P) (w := w) hT (re x (by simp [Op.operands]) u h1) (re i (by simp [Op.operands]) u' h2) h3
    exact .of_done (done_value h4 m h5)
  case index t x i =>
    replace e := ev2_ok e; obtain ⟨u, u', h1, h2, e⟩ := e
    obtain ⟨h3, rfl⟩ := okV_ok e
    obtain ⟨z, h4, h5⟩ := indexV_run (P := P) (w := w) hT (re x (by simp [Op.operands]) u h1) (re i (by simp [Op.operands]) u' h2) h3
    exact .of_done (done_value h4 m h5)
  case lookup t x i ok =>
    replace e := ev2_ok e; obtain ⟨u, u', h1, h2, e⟩ := e
    obtain ⟨h3, rfl⟩ := okV_ok e
    obtain ⟨z, h4, h5⟩ := lookupV_run (P := P) (w := w) hT m (re x (by simp [Op.operands]) u h1) (re i (by simp [Op.operands]) u' h2) h3
    exact .of_done (done_value h4 m h5)
  case mapUpdate t x k y =>
    replace e := ev3_ok e; obtain ⟨u, u', u'', h1, h2, h3, e⟩ := e
    exact .of_done (by simpa only [execOp] using mapUpdateV_done hT m (re x (by simp [Op.operands]) u h1) (re k (by simp [Op.operands]) u' h2) (re y (by simp [Op.operands]) u'' h3) e)
  case insert t x k y =>
    replace e := ev3_ok e; obtain ⟨u, u', u'', h1, h2, h3, e⟩ := e
    exact .of_done (by simpa only [execOp] using mapUpdateV_done hT m (re x (by simp [Op.operands]) u h1) (re k (by simp [Op.operands]) u' h2) (re y (by simp [Op.operands]) u'' h3) e)
  case mapEntry t x k =>
    replace e := ev2_ok e; obtain ⟨u, u', h1, h2, e⟩ := e
    exact .of_done (by simpa only [execOp] using mapEntryV_done hT m (re x (by simp [Op.operands]) u h1) (re k (by simp [Op.operands]) u' h2) e)
  case entryStore t x k y =>
    replace e := ev3_ok e; obtain ⟨u, u', u'', h1, h2, h3, e⟩ := e
    exact .of_done (by simpa only [execOp] using entryStoreV_done m (re x (by simp [Op.operands]) u h1) (re k (by simp [Op.operands]) u' h2) (re y (by simp [Op.operands]) u'' h3) e)
  case range t x =>
    replace e := ev1_ok e; obtain ⟨u, h1, e⟩ := e
    exact .of_done (by simpa only [execOp] using rangeV_done hT m (re x (by simp [Op.operands]) u h1) e)
  case next x s =>
    replace e := ev1_ok e; obtain ⟨u, h1, e⟩ := e
    exact .of_done (by simpa only [execOp] using nextV_done m (re x (by simp [Op.operands]) u h1) e)
  case entry x =>
    replace e := ev1_ok e; obtain ⟨u, h1, e⟩ := e
    obtain ⟨h3, rfl⟩ := okV_ok e
    obtain ⟨z, h4, h5⟩ := entryV_run (P := P) (w := w) m (re x (by simp [Op.operands]) u h1) h3
    exact .of_done (done_value h4 m h5)
  case extract x i =>
    replace e := ev1_ok e; obtain ⟨u, h1, e⟩ := e
    obtain ⟨h3, rfl⟩ := okV_ok e
    obtain ⟨z, h4, h5⟩ := extractV_run (P := P) (w := w) (re x (by simp [Op.operands]) u h1) h3
    exact .of_done (done_value h4 m h5)
  case call c =>
    obtain ⟨callee, args, ts⟩ := c
    simp only at e
    split at e
    · rename_i b
      replace e := onOpt_ok e; obtain ⟨vs, hvs, e⟩ := e
      have r := EvOk.evs (re.sub (xs := args.toList) (by simp [Op.operands, Call.operands])) hvs
      refine .of_done ?_
      have := builtinV_done (P := P) (t := ty) (cs := args.map fun | .const _ => true | _ => false) hT m r e
      simp only [execOp, resolve, Sem.run_bind, Sem.run_pure, Result.andThen_ok, invoke]
      have e2 : args.map a.eval = ⟨args.toList.map a.eval⟩ := by apply Array.ext'; simp
      rw [e2]
      exact this
    · rename_i f
      unfold callV at e
      replace e := onOpt_ok e; obtain ⟨u, hu, e⟩ := e
      split at e
      · rename_i g caps
        replace e := onOpt_ok e; obtain ⟨vs, hvs, e⟩ := e
        rw [appK_eq] at e
        obtain ⟨cs, rc, hfe⟩ := rep_func (re f (by simp [Op.operands, Call.operands]) _ hu)
        have r := EvOk.evs (re.sub (xs := args.toList) (by intro y hy; simp only [Op.operands, Call.operands, Array.toList_append]; simp; right; simpa using hy)) hvs
        exact .of_call (call_run hfe) (hC g _ _ _ _ e) m (r.append rc)
      · simp at e
    · simp at e
  all_goals simp at e

end
end Go.Rx

/- Closed runs: regions. -/
namespace Go.Rx
open Go.Fbs (maskOf masksFrom edgesBack pairOk noDup Closed mask_listed noDup_spec listedOf listedOf_set closed_set ready_iff unl unl_set lst lst_of_listedOf listed_false unl_pos)

/-! ### Regions in the text's order -/
section
variable (tt : T RTI) (C : Cee) (n : Nat)

noncomputable def putV {β : Type} (env : T RV) (dst : Option Tmp) (v : RV) (d : β) (k : T RV → β) : β :=
  match dst with
  | none => k env
  | some t => ifB (Nat.blt t n) (T.setK env t v k) d

/-- Is the operation wanted? -/
noncomputable def wantV (ops : List Oper) (env : T RV) (o : Oper) : Option Bool :=
  match o.guard with
  | none => some true
  | some (j, want) => onOpt (nthL ops j) none fun oj => onOpt oj.dst none fun t => onOpt (env.get t) none fun v => match v with
    | .bool b => some (ifB b want (ifB want false true))
    | .undef => some false
    | _ => none

noncomputable def opsV (ops : List Oper) : List Oper → T RV → HT → Out
  | [], env, H => .nrm env H
  | o :: r, env, H => onOpt (wantV ops env o) .bad fun b => ifB b
      (match opV tt C env H o.op with
      | .ok v H => putV n env o.dst v .bad fun env => opsV ops r env H
      | .bad => .bad)
      (putV n env o.dst .undef .bad fun env => opsV ops r env H)
end

section
variable {P : Program} {N : Nat} {h0 : Heap} {Γ : Gm} {w : World} {H H' : HT} {tt : T RTI} {C : Cee} {env : T RV} {a : Act} {n : Nat}

theorem putV_spec {α : Type} {env : T RV} {dst : Option Tmp} {v : RV} {d : α} {k : T RV → α} : (∃ env', putV n env dst v d k = k env' ∧ (∀ t, env'.get t = if dst = some t then some v else env.get t) ∧ ∀ t, dst = some t → t < n) ∨ putV n env dst v d k = d := by
  unfold putV
  cases dst with
  | none => exact .inl ⟨env, rfl, fun t => by simp, fun t h => by simp at h⟩
  | some t =>
    simp only
    rw [ifB_eq]
    split
    · rename_i h
      obtain ⟨env', h1, h2⟩ := T.setK_spec env t v k
      refine .inl ⟨env', h1, fun j => ?_, fun j hj => ?_⟩
      · rw [h2]
        by_cases hj : j = t
        · subst hj; simp
        · have : ¬ t = j := fun e => hj e.symm
          simp [hj, this]
      · simp at hj; subst hj; rw [Nat.blt_eq] at h; exact h
    · exact .inr rfl

theorem EnvOk.put (r : EnvOk Γ n env a) {env' : T RV} {dst : Option Tmp} {v : RV} {x : Value} (hg : ∀ t, env'.get t = if dst = some t then some v else env.get t) (hn : ∀ t, dst = some t → t < n) (hv : Rep Γ v x) : EnvOk Γ n env' (a.put dst x) := by
  refine ⟨by cases dst <;> exact r.1, by cases dst <;> simp [Act.put, r.2.1], fun i u hu => ?_⟩
  rw [hg] at hu
  split at hu
  · rename_i hd
    simp at hu; subst hu
    have := hn i hd
    subst hd
    refine ⟨x, ?_, hv⟩
    simp only [Act.put]
    rw [Array.getElem?_setIfInBounds, if_pos rfl, if_pos (by rw [r.2.1]; exact this)]
  · rename_i hd
    obtain ⟨y, h1, h2⟩ := r.2.2 i u hu
    refine ⟨y, ?_, h2⟩
    cases dst with
    | none => exact h1
    | some d =>
      simp only [Act.put]
      rw [Array.getElem?_setIfInBounds_ne (fun e => hd (by rw [e]))]; exact h1

/-- The guard's slot, if there is a guard. -/
def gdOk (Γ : Gm) (ops : List Oper) (env : T RV) (a : Act) (o : Oper) : Prop := ∀ j want oj t v, o.guard = some (j, want) → ops[j]? = some oj → oj.dst = some t → env.get t = some v → ∃ x, a.tmps[t]? = some x ∧ Rep Γ v x

theorem wantV_run {ops : List Oper} {o : Oper} {b : Bool} (re : gdOk Γ ops env a o) (e : wantV ops env o = some b) : Region.wanted o (yielded ops.toArray a.tmps) = b := by
  unfold wantV at e
  unfold Region.wanted
  split at e
  · rename_i hg
    rw [hg]; simpa using e
  · rename_i j want hg
    rw [hg]
    simp only
    replace e := onOpt_some_of e; obtain ⟨oj, h1, e⟩ := e
    replace e := onOpt_some_of e; obtain ⟨t, h2, e⟩ := e
    replace e := onOpt_some_of e; obtain ⟨v, h3, e⟩ := e
    rw [nthL_eq] at h1
    obtain ⟨x, h4, h5⟩ := re j want oj t v hg h1 h2 h3
    have h6 : ((ops.toArray[j]?).bind (·.dst)).bind (a.tmps[·]?) = some x := by
      rw [List.getElem?_toArray, h1]
      simp [h2, h4]
    split at e
    · rename_i c
      obtain rfl := rep_bool h5
      simp at e
      simp only [yielded, h6]
      cases c <;> cases want <;> simp [ifB_true, ifB_false] at e <;> subst e <;> rfl
    · obtain rfl := rep_undef h5
      simp at e; subst e
      simp only [yielded, h6]
      rfl
    · simp at e

theorem EnvOk.gd (r : EnvOk Γ n env a) (ops : List Oper) (o : Oper) : gdOk Γ ops env a o := fun _ _ _ t v _ _ _ h => r.2.2 t v h

theorem opsV_sound (hT : TtOk P tt) (hC : SoundR P C) {ops : List Oper} {Q : Exit → Act → World → Prop} : ∀ {rest : List Oper} {env : T RV} {H : HT} {env' : T RV} {H' : HT},
    opsV tt C n ops rest env H = .nrm env' H' → ∀ (Γ : Gm) (w : World) (a : Act), Mem N h0 Γ w.heap H → EnvOk Γ n env a →
    (∀ Γ' w' a', Ext N h0 Γ w H Γ' w' H' → EnvOk Γ' n env' a' → Q .normal a' w') → wpList P ops.toArray Q rest a w
  | [], env, H, env', H', e, Γ, w, a, m, re, hQ => by
    simp [opsV] at e
    obtain ⟨rfl, rfl⟩ := e
    exact hQ Γ w a (Ext.refl m) re
  | o :: rest, env, H, env', H', e, Γ, w, a, m, re, hQ => by
    simp only [opsV] at e
    replace e := onOpt_eq e
    rcases e with ⟨_, e⟩ | ⟨b, hb, e⟩
    · simp at e
    have hw := wantV_run (re.gd ops o) hb
    cases b with
    | true =>
      rw [ifB_true] at e
      split at e
      · rename_i v H1 h1
        unfold wpList
        rw [if_pos hw]
        refine .inl (Oper.wp_mono ?_ (opV_done hT hC m (re.on _) h1 Q))
        rintro a1 w1 ⟨x, Γ1, rfl, hx, hr⟩
        rcases putV_spec (n := n) (env := env) (dst := o.dst) (v := v) (d := Out.bad) (k := fun env => opsV tt C n ops rest env H1) with ⟨env1, h2, h3, h4⟩ | h2
        · rw [h2] at e
          exact opsV_sound hT hC e Γ1 w1 _ hx.mem ((re.mono hx.gle).put h3 h4 hr) (fun Γ' w' a' h5 h6 => hQ Γ' w' a' (hx.trans h5) h6)
        · rw [h2] at e; simp at e
      · simp at e
    | false =>
      rw [ifB_false] at e
      unfold wpList
      rw [if_neg (by rw [hw]; simp)]
      rcases putV_spec (n := n) (env := env) (dst := o.dst) (v := .undef) (d := Out.bad) (k := fun env => opsV tt C n ops rest env H) with ⟨env1, h2, h3, h4⟩ | h2
      · rw [h2] at e
        exact opsV_sound hT hC e Γ w _ m (re.put h3 h4 .undef) hQ
      · rw [h2] at e; simp at e

theorem region_sound (hT : TtOk P tt) (hC : SoundR P C) {ops : List Oper} {id : Nat} {Q : Exit → Act → World → Prop} {env' : T RV} {H' : HT} (e : opsV tt C n ops ops env H = .nrm env' H') (m : Mem N h0 Γ w.heap H) (re : EnvOk Γ n env a)
    (hQ : ∀ Γ' w' a', Ext N h0 Γ w H Γ' w' H' → EnvOk Γ' n env' a' → Q .normal a' w') : (Code.region id ops.toArray false).wp P Q a w :=
  wp_region_lit (opsV_sound hT hC e Γ w a m re hQ)

theorem opsV_nrm {ops rest : List Oper} : ∀ {env : T RV} {H : HT}, (∃ env' H', opsV tt C n ops rest env H = .nrm env' H') ∨ opsV tt C n ops rest env H = .bad := by
  induction rest with
  | nil => intro env H; exact .inl ⟨env, H, rfl⟩
  | cons o r ih =>
    intro env H
    simp only [opsV]
    cases hw : wantV ops env o with
    | none => exact .inr rfl
    | some b =>
      rw [onOpt_some]
      cases b with
      | true =>
        rw [ifB_true]
        cases ho : opV tt C env H o.op with
        | bad => exact .inr rfl
        | ok v H1 =>
          simp only
          rcases putV_spec (n := n) (env := env) (dst := o.dst) (v := v) (d := Out.bad) (k := fun env => opsV tt C n ops r env H1) with ⟨env1, h2, _⟩ | h2
          · rw [h2]; exact ih
          · exact .inr h2
      | false =>
        rw [ifB_false]
        rcases putV_spec (n := n) (env := env) (dst := o.dst) (v := .undef) (d := Out.bad) (k := fun env => opsV tt C n ops r env H) with ⟨env1, h2, _⟩ | h2
        · rw [h2]; exact ih
        · exact .inr h2
end
end Go.Rx

/- Closed runs: regions whose order is drawn. -/
namespace Go.Rx
open Go.Fbs (maskOf masksFrom edgesBack pairOk noDup Closed mask_listed noDup_spec listedOf listedOf_set closed_set ready_iff unl unl_set lst lst_of_listedOf listed_false unl_pos)

/-! ### Equal values -/
mutual
noncomputable def eqRV : RV → RV → Bool
  | .bool a, .bool b => ifB a b (ifB b false true)
  | .int k a, .int k' b => ifB (kindEq k k') (eqI a b) false
  | .str a, .str b => ifB (Nat.beq a.n b.n) (Nat.beq a.c b.c) false
  | .nilp, .nilp => true
  | .ptr l o, .ptr l' o' => ifB (Nat.beq l l') (Nat.beq o o') false
  | .slnil, .slnil => true
  | .sl l o n s c, .sl l' o' n' s' c' => ifB (Nat.beq l l') (ifB (Nat.beq o o') (ifB (Nat.beq n n') (ifB (Nat.beq s s') (match c, c' with | none, none => true | some x, some y => Nat.beq x y | _, _ => false) false) false) false) false
  | .mapnil, .mapnil => true
  | .map l, .map l' => Nat.beq l l'
  | .nilf, .nilf => true
  | .func f cs, .func g ds => ifB (Nat.beq f g) (eqRVs cs ds) false
  | .agg cs, .agg ds => eqRVs cs ds
  | .tup cs, .tup ds => eqRVs cs ds
  | .undef, .undef => true
  | _, _ => false
noncomputable def eqRVs : List RV → List RV → Bool
  | [], [] => true
  | x :: xs, y :: ys => ifB (eqRV x y) (eqRVs xs ys) false
  | _, _ => false
end

theorem ifB_and {x y : Bool} : ifB x y false = true ↔ x = true ∧ y = true := by cases x <;> simp [ifB_true, ifB_false]
theorem nbeq {a b : Nat} : Nat.beq a b = true ↔ a = b := by rw [Nat.beq_eq]

mutual
theorem eqRV_eq : ∀ (x y : RV), eqRV x y = true → x = y := by
  intro x y h
  unfold eqRV at h
  split at h
  · rename_i a b; cases a <;> cases b <;> simp [ifB_true, ifB_false] at h <;> rfl
  · rw [ifB_and, kindEq_eq, eqI_eq, decide_eq_true_iff] at h; obtain ⟨rfl, rfl⟩ := h; rfl
  · rename_i a b; rw [ifB_and, nbeq, nbeq] at h; obtain ⟨h1, h2⟩ := h; cases a; cases b; simp only at h1 h2; subst h1 h2; rfl
  · rfl
  · rw [ifB_and, nbeq, nbeq] at h; obtain ⟨rfl, rfl⟩ := h; rfl
  · rfl
  · rename_i l o n s c l' o' n' s' c'
    rw [ifB_and, ifB_and, ifB_and, ifB_and, nbeq, nbeq, nbeq, nbeq] at h
    obtain ⟨rfl, rfl, rfl, rfl, h⟩ := h
    cases c with
    | none => cases c' with
      | none => rfl
      | some => simp at h
    | some => cases c' with
      | none => simp at h
      | some => rw [nbeq.1 h]
  · rfl
  · rw [nbeq] at h; subst h; rfl
  · rfl
  · rename_i f cs g ds
    rw [ifB_and, nbeq] at h; obtain ⟨rfl, h⟩ := h; rw [eqRVs_eq cs ds h]
  · rename_i cs ds; rw [eqRVs_eq cs ds h]
  · rename_i cs ds; rw [eqRVs_eq cs ds h]
  · rfl
  · simp at h
theorem eqRVs_eq : ∀ (x y : List RV), eqRVs x y = true → x = y := by
  intro x y h
  cases x with
  | nil =>
    cases y with
    | nil => rfl
    | cons => simp [eqRVs] at h
  | cons x xs =>
    cases y with
    | nil => simp [eqRVs] at h
    | cons y ys =>
      simp only [eqRVs] at h
      rw [ifB_and] at h
      rw [eqRV_eq x y h.1, eqRVs_eq xs ys h.2]
end

/-! ### Classes -/
/-- Are these all constants? -/
noncomputable def constP (l : List (Nat × Operand)) : Bool := @List.rec (Nat × Operand) (fun _ => Bool) true (fun p _ ih => match p.2 with | .const _ => ih | _ => false) l
/-- 0: computes; 1: reads; 2: makes a zero variable; 3: all else. -/
noncomputable def cls (tt : T RTI) (o : Oper) : Nat :=
  match o.op with
  | .move _ | .assign _ | .pick .. | .build .. | .nilCheck _ | .binOp .. | .unOp .. | .makeFunc .. | .slice .. | .fieldAddr .. | .field .. | .indexAddr .. | .index .. | .extract .. => 0
  | .load .. | .lookup .. => 1
  | .call c => match c.callee with
    | .builtin .len | .builtin .cap => 1
    | .builtin .min | .builtin .max => 0
    | _ => 3
  | .convert s d _ => tyK tt s 3 fun si => tyK tt d 3 fun di => match si.d, di.d with
    | .int _, .int _ | .str, .str => 0
    | .sl _, .str => 1
    | _, _ => 3
  | .alloc _ => match o.guard with | none => 2 | some _ => 3
  | .buildSlice _ _ parts => match o.guard with | none => ifB (constP parts.toList) 2 3 | some _ => 3
  | _ => 3

theorem cls_le {tt : T RTI} (o : Oper) : cls tt o ≤ 3 := by
  unfold cls
  split <;> try omega
  · split <;> omega
  · unfold tyK onOpt
    cases tt.get _ <;> simp <;> cases tt.get _ <;> simp
    split <;> omega
  · split <;> omega
  · split
    · rw [ifB_eq]; split <;> omega
    · omega
theorem okV_same {o : Option RV} {v : RV} {H H' : HT} (e : okV o H = .ok v H') : H' = H ∧ ∀ H2, okV o H2 = .ok v H2 := by
  obtain ⟨rfl, rfl⟩ := okV_ok e
  exact ⟨rfl, fun H2 => rfl⟩

section
variable {tt : T RTI} {C : Cee} {env : T RV} {H H' : HT}

theorem cls_read {o : Oper} (hc : cls tt o ≤ 1) {v : RV} (e : opV tt C env H o.op = .ok v H') : H' = H := by
  obtain ⟨dst, op, ty, pos, after, guard⟩ := o
  unfold cls at hc
  simp only at e hc
  cases op <;> simp only [opV] at e <;> simp only at hc <;> try omega
  case move => exact (okV_ok e).2
  case assign => exact (okV_ok e).2
  case pick => obtain ⟨_, _, _, _, _, _, e⟩ := ev3_ok e; exact (okV_ok e).2
  case build => exact (okV_ok e).2
  case load =>
    obtain ⟨_, _, e⟩ := ev1_ok e
    unfold loadO at e
    replace e := tyK_ok e; obtain ⟨_, _, e⟩ := e
    exact (okV_ok e).2
  case nilCheck => obtain ⟨_, _, e⟩ := ev1_ok e; exact (okV_ok e).2
  case binOp => obtain ⟨_, _, _, _, e⟩ := ev2_ok e; exact (okV_ok e).2
  case unOp => obtain ⟨_, _, e⟩ := ev1_ok e; exact (okV_ok e).2
  case convert s d x =>
    obtain ⟨u, _, e⟩ := ev1_ok e
    unfold convertV at e
    replace e := tyK_ok e; obtain ⟨si, hs, e⟩ := e
    replace e := tyK_ok e; obtain ⟨di, hd, e⟩ := e
    simp only [tyK, hs, hd, onOpt_some] at hc
    split at e
    · rw [forceI_eq] at e; simp at e; exact e.2.symm
    · simp at e; exact e.2.symm
    · replace e := tyK_ok e; obtain ⟨ei, _, e⟩ := e
      split at e <;> simp at e
      exact e.2.symm
    · replace e := tyK_ok e; obtain ⟨ei, _, e⟩ := e
      split at e
      · replace e := readK_ok e; obtain ⟨_, _, _, e⟩ := e
        replace e := ifB_ok e; obtain ⟨_, e⟩ := e
        obtain ⟨_, e, _⟩ := getsK_specO _ _ _ _ _ e
        replace e := onOpt_ok e; obtain ⟨_, _, e⟩ := e
        rw [zipK_eq] at e
        simp at e; exact e.2.symm
      · simp at e
    · rename_i h1 h2 _
      rw [h1, h2] at hc
      simp at hc
    · rename_i h1 h2 _
      rw [h1, h2] at hc
      simp at hc
    · rename_i h1 h2 _
      rw [h1, h2] at hc
      simp at hc
    · simp at e
  case makeFunc =>
    unfold makeFuncO at e
    split at e
    · exact (okV_ok e).2
    · simp at e
  case slice =>
    unfold sliceO at e
    split at e
    · obtain ⟨_, _, e⟩ := ev1_ok e
      replace e := onOpt_ok e; obtain ⟨_, _, e⟩ := e
      replace e := onOpt_ok e; obtain ⟨_, _, e⟩ := e
      exact (okV_ok e).2
    · simp at e
  case fieldAddr => obtain ⟨_, _, e⟩ := ev1_ok e; exact (okV_ok e).2
  case field => obtain ⟨_, _, e⟩ := ev1_ok e; exact (okV_ok e).2
  case indexAddr => obtain ⟨_, _, _, _, e⟩ := ev2_ok e; exact (okV_ok e).2
  case index => obtain ⟨_, _, _, _, e⟩ := ev2_ok e; exact (okV_ok e).2
  case lookup => obtain ⟨_, _, _, _, e⟩ := ev2_ok e; exact (okV_ok e).2
  case extract => obtain ⟨_, _, e⟩ := ev1_ok e; exact (okV_ok e).2
  case alloc => split at hc <;> omega
  case buildSlice =>
    split at hc
    · rw [ifB_eq] at hc; split at hc <;> omega
    · omega
  case call c =>
    obtain ⟨callee, args, ts⟩ := c
    simp only at e hc
    split at hc
    · replace e := onOpt_ok e; obtain ⟨vs, _, e⟩ := e
      unfold builtinV at e
      split at e <;> first | exact (okV_ok e).2 | (simp at e; done) | simp_all
    · replace e := onOpt_ok e; obtain ⟨vs, _, e⟩ := e
      unfold builtinV at e
      split at e <;> first | exact (okV_ok e).2 | (simp at e; done) | simp_all
    · replace e := onOpt_ok e; obtain ⟨vs, _, e⟩ := e
      unfold builtinV at e
      split at e <;> first | exact (okV_ok e).2 | (simp at e; done) | simp_all
    · replace e := onOpt_ok e; obtain ⟨vs, _, e⟩ := e
      unfold builtinV at e
      split at e <;> first | exact (okV_ok e).2 | (simp at e; done) | simp_all
    · omega

theorem cls_pure {o : Oper} (hc : cls tt o = 0) {v : RV} (e : opV tt C env H o.op = .ok v H') (H2 : HT) : opV tt C env H2 o.op = .ok v H2 := by
  obtain ⟨dst, op, ty, pos, after, guard⟩ := o
  unfold cls at hc
  simp only at e hc ⊢
  have k1 : ∀ {x : Operand} {f : RV → Option RV}, ev1 env x (fun u => okV (f u) H) = .ok v H' → ev1 env x (fun u => okV (f u) H2) = .ok v H2 := fun {x f} e => by
    obtain ⟨u, h1, e⟩ := ev1_ok e
    unfold ev1; rw [h1, onOpt_some]; exact (okV_same e).2 H2
  have k2 : ∀ {x y : Operand} {f : RV → RV → Option RV}, ev2 env x y (fun u v => okV (f u v) H) = .ok v H' → ev2 env x y (fun u v => okV (f u v) H2) = .ok v H2 := fun {x y f} e => by
    obtain ⟨u, u', h1, h2, e⟩ := ev2_ok e
    unfold ev2; rw [h1, onOpt_some, h2, onOpt_some]; exact (okV_same e).2 H2
  cases op <;> simp only [opV] at e ⊢ <;> simp only at hc <;> try omega
  case move => exact (okV_same e).2 H2
  case assign => exact (okV_same e).2 H2
  case pick =>
    obtain ⟨u, u', u'', h1, h2, h3, e⟩ := ev3_ok e
    unfold ev3; rw [h1, onOpt_some, h2, onOpt_some, h3, onOpt_some]; exact (okV_same e).2 H2
  case build => exact (okV_same e).2 H2
  case nilCheck => exact k1 e
  case binOp => exact k2 e
  case unOp => exact k1 e
  case convert s d x =>
    obtain ⟨u, hu, e⟩ := ev1_ok e
    unfold ev1; rw [hu, onOpt_some]
    unfold convertV at e ⊢
    replace e := tyK_ok e; obtain ⟨si, hs, e⟩ := e
    replace e := tyK_ok e; obtain ⟨di, hd, e⟩ := e
    simp only [tyK, hs, hd, onOpt_some] at hc ⊢
    split at e
    · rename_i h1 h2
      rw [forceI_eq] at e; simp at e
      simp only [h1, h2, forceI_eq]
      rw [← e.1]
    · simp at e
      obtain ⟨rfl, rfl⟩ := e
      simp_all
    all_goals simp_all
  case makeFunc =>
    unfold makeFuncO at e ⊢
    split at e
    · exact (okV_same e).2 H2
    · simp at e
  case slice =>
    unfold sliceO at e ⊢
    split at e
    · obtain ⟨u, hu, e⟩ := ev1_ok e
      replace e := onOpt_ok e; obtain ⟨l, hl, e⟩ := e
      replace e := onOpt_ok e; obtain ⟨h, hh, e⟩ := e
      unfold ev1; rw [hu, onOpt_some, hl, onOpt_some, hh, onOpt_some]; exact (okV_same e).2 H2
    · simp at e
  case fieldAddr => exact k1 e
  case field => exact k1 e
  case indexAddr => exact k2 e
  case index => exact k2 e
  case extract => exact k1 e
  case alloc => split at hc <;> omega
  case buildSlice =>
    split at hc
    · rw [ifB_eq] at hc; split at hc <;> omega
    · omega
  case call c =>
    obtain ⟨callee, args, ts⟩ := c
    simp only at e
    cases callee with
    | builtin b =>
      simp only at e hc ⊢
      replace e := onOpt_ok e; obtain ⟨vs, hvs, e⟩ := e
      simp only [hvs, onOpt_some]
      split at hc
      · omega
      · omega
      · unfold builtinV at e ⊢
        split at e <;> first | exact (okV_same e).2 H2 | (simp at e; done) | simp_all
      · unfold builtinV at e ⊢
        split at e <;> first | exact (okV_same e).2 H2 | (simp at e; done) | simp_all
      · omega
    | _ => simp at hc
end
end Go.Rx

/- Closed runs: regions whose order is drawn: the evaluator, and its trace. -/
namespace Go.Rx
open Go.Fbs (maskOf masksFrom edgesBack pairOk noDup Closed mask_listed noDup_spec listedOf listedOf_set closed_set ready_iff unl unl_set lst lst_of_listedOf listed_false unl_pos)

noncomputable def isS (tt : T RTI) (o : Oper) : Bool := Nat.beq (cls tt o) 3

/-- How many with effects stand among the first j. -/
noncomputable def kS (tt : T RTI) : List Oper → Nat → Nat
  | _, 0 => 0
  | [], _ + 1 => 0
  | o :: r, j + 1 => ifB (isS tt o) (Nat.succ (kS tt r j)) (kS tt r j)

noncomputable def isSat (tt : T RTI) (ops : List Oper) (p : Nat) : Bool := onOpt (nthL ops p) false (isS tt)

/-- May operation j come when t of those with effects have come? -/
noncomputable def adm (tt : T RTI) (ops : List Oper) (ms : List Nat) (j t : Nat) : Bool :=
  (List.range ops.length).all fun p => ifB (isSat tt ops p) (ifB (Nat.blt (kS tt ops p) t) (!(ms.getD p 0).testBit j) (!(ms.getD j 0).testBit p)) true

/-- What is to be looked at again. -/
noncomputable def pairsD (tt : T RTI) (ops : List Oper) : List (Nat × Nat) :=
  (List.range ops.length).flatMap fun j => onOpt (nthL ops j) [] fun o => ifB (Nat.beq (cls tt o) 1 || Nat.beq (cls tt o) 2)
    (((List.range (kS tt ops ops.length + 1)).filter fun t => adm tt ops (masksFrom [] ops) j t && (Nat.beq (cls tt o) 2 || !Nat.beq t (kS tt ops j))).map fun t => (j, t)) []

/-- The region's form: slots are written once; what is unbound does not look at what the other writes; those with effects come in the text's order. -/
noncomputable def drawOk (tt : T RTI) (ops : List Oper) : Bool :=
  let ms := masksFrom [] ops
  noDup (ops.map (·.dst)) && (List.range ops.length).all (fun j => edgesBack j (ops.getD j default)) && (List.range ops.length).all (fun j => (List.range j).all fun i => pairOk ops ms i j &&
    (!(isSat tt ops i && isSat tt ops j) || (ms.getD j 0).testBit i)) &&
  (pairsD tt ops).all fun p => (List.range ops.length).all fun i => Nat.blt i p.1 || (match ops[p.1]?, ops[i]? with
    | some x, some y => Nat.beq (cls tt x) 2 || (match y.dst with | some d => !(x.looksAt ops.toArray).contains d | none => true)
    | _, _ => false)

inductive DOut where
  | ok (env : T RV) (Ms : List HT)
  | bad

section
variable (tt : T RTI) (C : Cee) (n : Nat)

/-- What is laid in a place of its own, whenever that is done: the cells. -/
noncomputable def preC (op : Op) : Option (Nat × List RV) :=
  match op with
  | .alloc t => tyK tt t none fun ti => onOpt ti.z none fun z => some (Nat.succ t, z)
  | .buildSlice t len parts => onOpt (bsCells tt .e t len parts.toList) none fun p => some (0, p.2)
  | _ => none
/-- What leads there. -/
noncomputable def preVal (op : Op) (id : Nat) : RV :=
  match op with
  | .buildSlice t len parts => onOpt (bsCells tt .e t len parts.toList) .undef fun p => .sl id 0 len p.1 (some len)
  | _ => .ptr id 0
/-- The zero variables' places. -/
noncomputable def preV : List Oper → HT → Option (List Nat × HT)
  | [], H => some ([], H)
  | o :: r, H => ifB (Nat.beq (cls tt o) 2)
      (onOpt (preC tt o.op) none fun q => newCells H q.1 q.2 fun l H => onOpt (preV r H) none fun p => some (l :: p.1, p.2))
      (onOpt (preV r H) none fun p => some (0 :: p.1, p.2))

noncomputable def consM (H : HT) (b : Bool) (o : DOut) : DOut :=
  match o with
  | .ok env Ms => .ok env (ifB b (H :: Ms) Ms)
  | .bad => .bad

noncomputable def runD (ops : List Oper) : List Oper → List Nat → T RV → HT → DOut
  | [], _, env, H => .ok env [H]
  | o :: r, ids, env, H => match ids with
    | [] => .bad
    | id :: ids => onOpt (wantV ops env o) .bad fun b => ifB b
        (ifB (Nat.beq (cls tt o) 2)
          (putV n env o.dst (preVal tt o.op id) .bad fun env => runD ops r ids env H)
          (match opV tt C env H o.op with
          | .ok v H' => putV n env o.dst v .bad fun env => consM H (isS tt o) (runD ops r ids env H')
          | .bad => .bad))
        (putV n env o.dst .undef .bad fun env => consM H (isS tt o) (runD ops r ids env H))

/-- A place holds just these cells. -/
noncomputable def cellsIs (H : HT) (l e : Nat) (z : List RV) : Bool :=
  writeK H l false fun g m t => ifB (Nat.beq g e) (ifB (Nat.beq m (lenL z)) (getsK t m 0 false fun r => eqRVs r z) false) false

noncomputable def chkD (ops : List Oper) (ids : List Nat) (env : T RV) (Ms : List HT) : List (Nat × Nat) → Bool
  | [] => true
  | (j, t) :: r => ifB
      (onOpt (nthL ops j) false fun o => onOpt (nthL Ms t) false fun M => ifB (Nat.beq (cls tt o) 2)
        (onOpt (preC tt o.op) false fun q => onOpt (nthL ids j) false fun l => cellsIs M l q.1 q.2)
        (onOpt (wantV ops env o) false fun b => ifB b
          (match opV tt C env M o.op with
          | .ok v _ => (match o.dst with | some d => onOpt (env.get d) false fun u => eqRV v u | none => true)
          | .bad => false) true))
      (chkD ops ids env Ms r) false

noncomputable def drawV (ops : List Oper) (env : T RV) (H : HT) : Out :=
  ifB (drawOk tt ops) (onOpt (preV tt ops H) .bad fun p =>
    match runD tt C n ops ops p.1 env p.2 with
    | .ok env' Ms => ifB (chkD tt C ops p.1 env' Ms (pairsD tt ops)) (onOpt (nthL Ms (kS tt ops ops.length)) .bad fun H' => .nrm env' H') .bad
    | .bad => .bad) .bad
end

/-! ### The trace -/
structure Step (tt : T RTI) (C : Cee) (n : Nat) (ops : List Oper) (o : Oper) (id : Nat) (env env' : T RV) (v : RV) (H H' : HT) : Prop where
  get : ∀ t, env'.get t = if o.dst = some t then some v else env.get t
  lt : ∀ t, o.dst = some t → t < n
  run : (wantV ops env o = some true ∧ ((cls tt o = 2 ∧ v = preVal tt o.op id ∧ H' = H) ∨ (cls tt o ≠ 2 ∧ opV tt C env H o.op = .ok v H'))) ∨ (wantV ops env o = some false ∧ v = .undef ∧ H' = H)

section
variable {tt : T RTI} {C : Cee} {n : Nat} {ops : List Oper}

theorem kS_zero (l : List Oper) : kS tt l 0 = 0 := by cases l <;> rfl
theorem kS_cons (o : Oper) (r : List Oper) (j : Nat) : kS tt (o :: r) (j + 1) = (if isS tt o = true then kS tt r j + 1 else kS tt r j) := by
  show ifB _ _ _ = _
  rw [ifB_eq]

theorem isS_iff {o : Oper} : isS tt o = true ↔ cls tt o = 3 := by unfold isS; rw [nbeq]

theorem runD_trace : ∀ {rest : List Oper} {ids : List Nat} {env : T RV} {H : HT} {env' : T RV} {Ms : List HT}, runD tt C n ops rest ids env H = .ok env' Ms →
    ∃ (es : Nat → T RV) (val : Nat → RV) (M : Nat → HT), es 0 = env ∧ M 0 = H ∧ es rest.length = env' ∧ rest.length ≤ ids.length ∧ (∀ t, t ≤ kS tt rest rest.length → Ms[t]? = some (M t)) ∧
      ∀ (j : Nat) o id, rest[j]? = some o → ids[j]? = some id → Step tt C n ops o id (es j) (es (j + 1)) (val j) (M (kS tt rest j)) (M (kS tt rest (j + 1)))
  | [], ids, env, H, env', Ms, e => by
    simp [runD] at e
    obtain ⟨rfl, rfl⟩ := e
    refine ⟨fun _ => env, fun _ => .undef, fun _ => H, rfl, rfl, rfl, by simp, fun t ht => ?_, by simp⟩
    have h0 : t = 0 := by simpa [kS] using ht
    subst h0; rfl
  | o :: r, ids, env, H, env', Ms, e => by
    simp only [runD] at e
    split at e
    · simp at e
    rename_i id ids
    have key : ∀ (env1 : T RV) (v : RV) (H1 : HT) (Ms1 : List HT), Step tt C n ops o id env env1 v H H1 → runD tt C n ops r ids env1 H1 = .ok env' Ms1 → Ms = (if isS tt o = true then H :: Ms1 else Ms1) → (isS tt o = false → H1 = H) →
        ∃ (es : Nat → T RV) (val : Nat → RV) (M : Nat → HT), es 0 = env ∧ M 0 = H ∧ es (o :: r).length = env' ∧ (o :: r).length ≤ (id :: ids).length ∧ (∀ t, t ≤ kS tt (o :: r) (o :: r).length → Ms[t]? = some (M t)) ∧
          ∀ (j : Nat) o' id', (o :: r)[j]? = some o' → (id :: ids)[j]? = some id' → Step tt C n ops o' id' (es j) (es (j + 1)) (val j) (M (kS tt (o :: r) j)) (M (kS tt (o :: r) (j + 1))) := by
      intro env1 v H1 Ms1 st h1 h2 h3
      obtain ⟨es, val, M, e1, e2, e3, e4, e5, e6⟩ := runD_trace h1
      by_cases hs : isS tt o = true
      · rw [if_pos hs] at h2
        refine ⟨fun i => match i with | 0 => env | i + 1 => es i, fun i => match i with | 0 => v | i + 1 => val i, fun i => match i with | 0 => H | i + 1 => M i, rfl, rfl, e3, by simpa using e4, fun t ht => ?_, fun j o' id' ho hi => ?_⟩
        · rw [h2]
          cases t with
          | zero => rfl
          | succ t =>
            rw [List.getElem?_cons_succ]
            refine e5 t ?_
            rw [List.length_cons, kS_cons, if_pos hs] at ht
            omega
        · cases j with
          | zero =>
            simp at ho hi
            subst ho; subst hi
            simp only [kS_zero, kS_cons, if_pos hs]
            rw [e1, e2]; exact st
          | succ j =>
            simp only [kS_cons, if_pos hs]
            exact e6 j o' id' (by simpa using ho) (by simpa using hi)
      · have hs' : isS tt o = false := by simpa using hs
        rw [if_neg hs] at h2
        have hH := h3 hs'
        subst hH
        refine ⟨fun i => match i with | 0 => env | i + 1 => es i, fun i => match i with | 0 => v | i + 1 => val i, M, rfl, e2, e3, by simpa using e4, fun t ht => ?_, fun j o' id' ho hi => ?_⟩
        · rw [h2]
          refine e5 t ?_
          rw [List.length_cons, kS_cons, if_neg hs] at ht
          exact ht
        · cases j with
          | zero =>
            simp at ho hi
            subst ho; subst hi
            simp only [kS_zero, kS_cons, if_neg hs]
            rw [e1, e2]; exact st
          | succ j =>
            simp only [kS_cons, if_neg hs]
            exact e6 j o' id' (by simpa using ho) (by simpa using hi)
    replace e := onOpt_eq e
    rcases e with ⟨_, e⟩ | ⟨b, hb, e⟩
    · simp at e
    cases b with
    | true =>
      rw [ifB_true] at e
      rw [ifB_eq] at e
      split at e
      · rename_i hc
        have hc := nbeq.1 hc
        have hns : ¬ isS tt o = true := by rw [isS_iff]; omega
        rcases putV_spec (n := n) (env := env) (dst := o.dst) (v := preVal tt o.op id) (d := DOut.bad) (k := fun env => runD tt C n ops r ids env H) with ⟨env1, h2, h3, h4⟩ | h2
        · rw [h2] at e
          exact key env1 _ H Ms ⟨h3, h4, .inl ⟨hb, .inl ⟨hc, rfl, rfl⟩⟩⟩ e (by rw [if_neg hns]) (fun _ => rfl)
        · rw [h2] at e; simp at e
      · rename_i hc
        have hc : cls tt o ≠ 2 := fun h => hc (by rw [h]; rfl)
        split at e
        · rename_i v H1 h1
          rcases putV_spec (n := n) (env := env) (dst := o.dst) (v := v) (d := DOut.bad) (k := fun env => consM H (isS tt o) (runD tt C n ops r ids env H1)) with ⟨env1, h2, h3, h4⟩ | h2
          · rw [h2] at e
            unfold consM at e
            split at e
            · rename_i env2 Ms1 h5
              simp at e
              obtain ⟨rfl, rfl⟩ := e
              refine key env1 v H1 Ms1 ⟨h3, h4, .inl ⟨hb, .inr ⟨hc, h1⟩⟩⟩ h5 (by rw [ifB_eq]) (fun hs => ?_)
              have : cls tt o ≤ 1 := by
                have h6 : cls tt o ≠ 3 := fun h => by rw [isS_iff.2 h] at hs; simp at hs
                have h7 : cls tt o ≤ 3 := cls_le o
                omega
              exact cls_read this h1
            · simp at e
          · rw [h2] at e; simp at e
        · simp at e
    | false =>
      rw [ifB_false] at e
      rcases putV_spec (n := n) (env := env) (dst := o.dst) (v := .undef) (d := DOut.bad) (k := fun env => consM H (isS tt o) (runD tt C n ops r ids env H)) with ⟨env1, h2, h3, h4⟩ | h2
      · rw [h2] at e
        unfold consM at e
        split at e
        · rename_i env2 Ms1 h5
          simp at e
          obtain ⟨rfl, rfl⟩ := e
          exact key env1 _ H Ms1 ⟨h3, h4, .inr ⟨hb, rfl, rfl⟩⟩ h5 (by rw [ifB_eq]) (fun _ => rfl)
        · simp at e
      · rw [h2] at e; simp at e
end
end Go.Rx

/- Closed runs: regions whose order is drawn: every order does what the text's order does. -/
namespace Go.Rx
open Go.Fbs (maskOf masksFrom edgesBack pairOk noDup Closed mask_listed noDup_spec listedOf listedOf_set closed_set ready_iff unl unl_set lst lst_of_listedOf listed_false unl_pos)

section
variable {tt : T RTI} {C : Cee} {n : Nat} {ops : List Oper}

theorem isSat_iff {p : Nat} {o : Oper} (ho : ops[p]? = some o) : isSat tt ops p = true ↔ cls tt o = 3 := by
  unfold isSat
  rw [nthL_eq, ho, onOpt_some, isS_iff]

structure DFacts (tt : T RTI) (ops : List Oper) : Prop where
  nd : ∀ (i j : Nat) x y d, ops[i]? = some x → ops[j]? = some y → x.dst = some d → y.dst = some d → i = j
  back : ∀ (j : Nat) o, ops[j]? = some o → ∀ e ∈ o.after, Region.binds .any e = true → e.on < j
  pair : ∀ (i j : Nat) x y, i < j → ops[i]? = some x → ops[j]? = some y → ((masksFrom [] ops).getD j 0).testBit i = true ∨ Oper.apart ops.toArray x y = true
  chain : ∀ (i j : Nat) x y, i < j → ops[i]? = some x → ops[j]? = some y → cls tt x = 3 → cls tt y = 3 → ((masksFrom [] ops).getD j 0).testBit i = true
  fin : ∀ j t, (j, t) ∈ pairsD tt ops → ∀ (i : Nat) x y d, ¬ i < j → ops[j]? = some x → ops[i]? = some y → cls tt x ≠ 2 → y.dst = some d → d ∉ x.looksAt ops.toArray

theorem drawFacts (h : drawOk tt ops = true) : DFacts tt ops := by
  unfold drawOk at h
  simp only [Bool.and_eq_true, List.all_eq_true, List.mem_range] at h
  obtain ⟨⟨⟨h1, h2⟩, h3⟩, h4⟩ := h
  have lt : ∀ {j : Nat} {o : Oper}, ops[j]? = some o → j < ops.length := fun h => (List.getElem?_eq_some_iff.1 h).1
  refine ⟨fun i j x y d hx hy hxd hyd => ?_, fun j o ho e he hb => ?_, fun i j x y hij hx hy => ?_, fun i j x y hij hx hy hc hc' => ?_, fun j t hm i x y d hij hx hy hc hd => ?_⟩
  · exact noDup_spec _ h1 i j d (by rw [List.getElem?_map, hx]; simp [hxd]) (by rw [List.getElem?_map, hy]; simp [hyd])
  · have := h2 j (lt ho)
    rw [List.getD_eq_getElem?_getD, ho] at this
    simp only [Option.getD_some, edgesBack, List.all_eq_true] at this
    have := this e (by simpa using he)
    simpa [hb] using this
  · have := (h3 j (lt hy) i hij).1
    unfold pairOk at this
    rw [hx, hy] at this
    simpa using this
  · have := (h3 j (lt hy) i hij).2
    rw [(isSat_iff hx).2 hc, (isSat_iff hy).2 hc'] at this
    simpa using this
  · have := h4 (j, t) hm i (lt hy)
    simp only [Bool.or_eq_true] at this
    rcases this with h5 | h5
    · rw [Nat.blt_eq] at h5; exact absurd h5 hij
    · rw [hx, hy] at h5
      simp only [hd, Bool.or_eq_true, Bool.not_eq_true', nbeq] at h5
      rcases h5 with h5 | h5
      · exact absurd h5 hc
      · intro hmem
        rw [List.contains_iff_mem.2 hmem] at h5
        simp at h5

theorem kS_le : ∀ (l : List Oper) (i j : Nat), i ≤ j → kS tt l i ≤ kS tt l j
  | [], i, j, _ => by cases i <;> cases j <;> simp [kS]
  | o :: r, 0, j, _ => by rw [kS_zero]; exact Nat.zero_le _
  | o :: r, i + 1, 0, h => by omega
  | o :: r, i + 1, j + 1, h => by
    rw [kS_cons, kS_cons]
    have := kS_le r i j (by omega)
    split <;> omega
theorem kS_succ : ∀ {l : List Oper} {j : Nat} {o : Oper}, l[j]? = some o → kS tt l (j + 1) = if cls tt o = 3 then kS tt l j + 1 else kS tt l j
  | [], j, o, h => by simp at h
  | x :: r, 0, o, h => by
    simp at h; subst h
    rw [kS_cons, kS_zero, kS_zero]
    by_cases hc : cls tt x = 3
    · rw [if_pos (isS_iff.2 hc), if_pos hc]
    · rw [if_neg (fun h => hc (isS_iff.1 h)), if_neg hc]
  | x :: r, j + 1, o, h => by
    have := kS_succ (l := r) (j := j) (o := o) (by simpa using h)
    rw [kS_cons, kS_cons]
    split <;> rw [this] <;> split <;> omega
theorem kS_at : ∀ {l : List Oper} {j t : Nat}, j ≤ l.length → t < kS tt l j → ∃ p o, p < j ∧ l[p]? = some o ∧ cls tt o = 3 ∧ kS tt l p = t
  | l, 0, t, _, h => by rw [kS_zero] at h; omega
  | l, j + 1, t, hj, h => by
    have ho := List.getElem?_eq_getElem (show j < l.length by omega)
    rw [kS_succ ho] at h
    split at h
    · rename_i hc
      by_cases ht : t < kS tt l j
      · obtain ⟨p, o, h1, h2, h3, h4⟩ := kS_at (by omega) ht
        exact ⟨p, o, by omega, h2, h3, h4⟩
      · exact ⟨j, _, by omega, ho, hc, by omega⟩
    · obtain ⟨p, o, h1, h2, h3, h4⟩ := kS_at (by omega) h
      exact ⟨p, o, by omega, h2, h3, h4⟩
theorem kS_inj {p q : Nat} {x y : Oper} (hx : ops[p]? = some x) (hy : ops[q]? = some y) (cx : cls tt x = 3) (cy : cls tt y = 3) (h : kS tt ops p = kS tt ops q) : p = q := by
  have h1 := kS_succ (tt := tt) hx
  have h2 := kS_succ (tt := tt) hy
  rw [if_pos cx] at h1; rw [if_pos cy] at h2
  rcases Nat.lt_trichotomy p q with hlt | heq | hlt
  · have := kS_le (tt := tt) ops (p + 1) q hlt; omega
  · exact heq
  · have := kS_le (tt := tt) ops (q + 1) p hlt; omega

theorem pairsD_mem {j t : Nat} {o : Oper} (ho : ops[j]? = some o) (hc : cls tt o = 1 ∨ cls tt o = 2) (ht : t ≤ kS tt ops ops.length) (ha : adm tt ops (masksFrom [] ops) j t = true) (hne : cls tt o = 1 → t ≠ kS tt ops j) : (j, t) ∈ pairsD tt ops := by
  unfold pairsD
  rw [List.mem_flatMap]
  refine ⟨j, List.mem_range.2 (List.getElem?_eq_some_iff.1 ho).1, ?_⟩
  rw [nthL_eq, ho, onOpt_some]
  have : (Nat.beq (cls tt o) 1 || Nat.beq (cls tt o) 2) = true := by
    rw [Bool.or_eq_true, nbeq, nbeq]; exact hc
  rw [this, ifB_true, List.mem_map]
  refine ⟨t, ?_, rfl⟩
  rw [List.mem_filter, List.mem_range, Bool.and_eq_true, Bool.or_eq_true, nbeq]
  refine ⟨by omega, ha, ?_⟩
  rcases hc with hc | hc
  · right
    have := hne hc
    cases hb : Nat.beq t (kS tt ops j) with
    | false => rfl
    | true => exact absurd (nbeq.1 hb) this
  · exact .inl hc

theorem chkD_mem {ids : List Nat} {env : T RV} {Ms : List HT} : ∀ {ps : List (Nat × Nat)}, chkD tt C ops ids env Ms ps = true → ∀ j t, (j, t) ∈ ps →
    onOpt (nthL ops j) false (fun o => onOpt (nthL Ms t) false fun M => ifB (Nat.beq (cls tt o) 2)
        (onOpt (preC tt o.op) false fun q => onOpt (nthL ids j) false fun l => cellsIs M l q.1 q.2)
        (onOpt (wantV ops env o) false fun b => ifB b
          (match opV tt C env M o.op with
          | .ok v _ => (match o.dst with | some d => onOpt (env.get d) false fun u => eqRV v u | none => true)
          | .bad => false) true)) = true
  | [], _, j, t, h => by simp at h
  | (j', t') :: r, e, j, t, h => by
    simp only [chkD] at e
    rw [ifB_and] at e
    rcases List.mem_cons.1 h with h | h
    · simp at h
      obtain ⟨rfl, rfl⟩ := h
      exact e.1
    · exact chkD_mem e.2 j t h

theorem onOpt_true {α : Type} {o : Option α} {k : α → Bool} (e : onOpt o false k = true) : ∃ a, o = some a ∧ k a = true := by
  rcases onOpt_eq e with ⟨_, h⟩ | h
  · simp at h
  · exact h

theorem mem_hole {N : Nat} {h0 h : Heap} {Γ : Gm} {H H' : HT} {o : RO} (m : Mem N h0 Γ h H) (hH : New H H' o) : Mem N h0 Γ h H' := by
  have ne : ∀ {l : Nat} {p : Pl}, Γ l = some p → H'.get l = H.get l := fun {l p} h => by
    rw [hH.2, if_neg (fun e => by have := m.lt l p h; omega)]
  exact ⟨m.size, m.old, fun l p h => by rw [hH.1]; have := m.lt l p h; omega, m.blk, fun l p o h1 h2 => m.obj l p o h1 (by rw [← ne h1]; exact h2), fun l p o h1 h2 => m.own l p o h1 (by rw [← ne h1]; exact h2),
    fun l l' p p' o h1 h2 h3 h4 h5 => by rw [ne h2]; exact m.excl l l' p p' o h1 h2 h3 (by rw [← ne h1]; exact h4) h5⟩

theorem preV_spec : ∀ {l : List Oper} {H H1 : HT} {ids : List Nat}, preV tt l H = some (ids, H1) → H.sz ≤ H1.sz ∧ ids.length = l.length ∧ (∀ (N : Nat) (h0 h : Heap) (Γ : Gm), Mem N h0 Γ h H → Mem N h0 Γ h H1) ∧
    (∀ (j : Nat) o id, l[j]? = some o → ids[j]? = some id → cls tt o = 2 → H.sz ≤ id ∧ id < H1.sz) ∧
    ∀ (i j : Nat) x y id, l[i]? = some x → l[j]? = some y → cls tt x = 2 → cls tt y = 2 → ids[i]? = some id → ids[j]? = some id → i = j
  | [], H, H1, ids, e => by
    simp [preV] at e
    obtain ⟨rfl, rfl⟩ := e
    exact ⟨Nat.le_refl _, rfl, fun _ _ _ _ h => h, by simp, by simp⟩
  | o :: r, H, H1, ids, e => by
    simp only [preV] at e
    rw [ifB_eq] at e
    split at e
    · rename_i hc
      have hc := nbeq.1 hc
      · replace e := onOpt_some_of e; obtain ⟨⟨g, z⟩, hz, e⟩ := e
        obtain ⟨H2, t2, h1, h2, h3⟩ := newCells_spec H _ z (fun l H => onOpt (preV tt r H) none fun p => some (l :: p.1, p.2))
        rw [h1] at e
        replace e := onOpt_some_of e; obtain ⟨p, hp, e⟩ := e
        simp at e
        obtain ⟨rfl, rfl⟩ := e
        obtain ⟨ids', H3⟩ := p
        obtain ⟨h4, h5, h6, h7, h8⟩ := preV_spec hp
        have hs := h2.1
        refine ⟨by simp only; omega, by simp [h5], fun N h0 h Γ m => h6 N h0 h Γ (mem_hole m h2), fun j o' id ho hi hc' => ?_, fun i j x y id hx hy cx cy hi hj => ?_⟩
        · cases j with
          | zero => simp at hi; subst hi; simp only; omega
          | succ j =>
            have := h7 j o' id (by simpa using ho) (by simpa using hi) hc'
            simp only; omega
        · cases i with
          | zero =>
            cases j with
            | zero => rfl
            | succ j =>
              simp at hi; subst hi
              have := h7 j y H.sz (by simpa using hy) (by simpa using hj) cy
              omega
          | succ i =>
            cases j with
            | zero =>
              simp at hj; subst hj
              have := h7 i x H.sz (by simpa using hx) (by simpa using hi) cx
              omega
            | succ j => rw [h8 i j x y id (by simpa using hx) (by simpa using hy) cx cy (by simpa using hi) (by simpa using hj)]
    · rename_i hc
      have hc : cls tt o ≠ 2 := fun h => hc (by rw [h]; rfl)
      replace e := onOpt_some_of e; obtain ⟨p, hp, e⟩ := e
      simp at e
      obtain ⟨rfl, rfl⟩ := e
      obtain ⟨ids', H3⟩ := p
      obtain ⟨h4, h5, h6, h7, h8⟩ := preV_spec hp
      refine ⟨h4, by simp [h5], h6, fun j o' id ho hi hc' => ?_, fun i j x y id hx hy cx cy hi hj => ?_⟩
      · cases j with
        | zero => simp at ho; subst ho; exact absurd hc' hc
        | succ j => exact h7 j o' id (by simpa using ho) (by simpa using hi) hc'
      · cases i with
        | zero => simp at hx; subst hx; exact absurd cx hc
        | succ i =>
          cases j with
          | zero => simp at hy; subst hy; exact absurd cy hc
          | succ j => rw [h8 i j x y id (by simpa using hx) (by simpa using hy) cx cy (by simpa using hi) (by simpa using hj)]

/-! ### Slots along the trace -/
structure Tr (tt : T RTI) (C : Cee) (n : Nat) (ops : List Oper) (ids : List Nat) (es : Nat → T RV) (val : Nat → RV) (M : Nat → HT) : Prop where
  len : ops.length ≤ ids.length
  step : ∀ (j : Nat) o id, ops[j]? = some o → ids[j]? = some id → Step tt C n ops o id (es j) (es (j + 1)) (val j) (M (kS tt ops j)) (M (kS tt ops (j + 1)))

variable {ids : List Nat} {es : Nat → T RV} {val : Nat → RV} {M : Nat → HT}

theorem Tr.at (T : Tr tt C n ops ids es val M) {j : Nat} {o : Oper} (ho : ops[j]? = some o) : ∃ id, ids[j]? = some id ∧ Step tt C n ops o id (es j) (es (j + 1)) (val j) (M (kS tt ops j)) (M (kS tt ops (j + 1))) := by
  have hj : j < ids.length := Nat.lt_of_lt_of_le (List.getElem?_eq_some_iff.1 ho).1 T.len
  exact ⟨ids[j], List.getElem?_eq_getElem hj, T.step j o _ ho (List.getElem?_eq_getElem hj)⟩

theorem Tr.old (T : Tr tt C n ops ids es val M) {d : Nat} : ∀ j, j ≤ ops.length → (∀ (i : Nat) o, i < j → ops[i]? = some o → o.dst ≠ some d) → (es j).get d = (es 0).get d
  | 0, _, _ => rfl
  | j + 1, hj, h => by
    obtain ⟨id, _, st⟩ := T.at (List.getElem?_eq_getElem (show j < ops.length by omega))
    rw [st.get, if_neg (h j _ (by omega) (List.getElem?_eq_getElem (by omega)))]
    exact T.old j (by omega) (fun i o hi ho => h i o (by omega) ho)
theorem Tr.new (T : Tr tt C n ops ids es val M) (f : DFacts tt ops) {d i : Nat} {o : Oper} (hio : ops[i]? = some o) (hd : o.dst = some d) : ∀ j, i < j → j ≤ ops.length → (es j).get d = some (val i)
  | 0, h, _ => by omega
  | j + 1, h, hj => by
    have ho := List.getElem?_eq_getElem (show j < ops.length by omega)
    obtain ⟨id, _, st⟩ := T.at ho
    rw [st.get]
    by_cases hij : i = j
    · subst hij
      rw [ho] at hio; simp at hio; subst hio
      rw [if_pos hd]
    · rw [if_neg (fun e => hij (f.nd i j _ _ d hio ho hd e))]
      exact T.new f hio hd j (by omega) (by omega)
end
end Go.Rx

/- Closed runs: regions whose order is drawn: the theorem. -/
namespace Go.Rx
open Go.Fbs (maskOf masksFrom edgesBack pairOk noDup Closed mask_listed noDup_spec listedOf listedOf_set closed_set ready_iff unl unl_set lst lst_of_listedOf listed_false unl_pos)

/-- What holds while some have come up; t of those with effects. -/
structure Mid (tt : T RTI) (n : Nat) (ops : List Oper) (ids : List Nat) (es : Nat → T RV) (val : Nat → RV) (M : Nat → HT) (N : Nat) (h0 : Heap) (Γ0 : Gm) (w0 : World) (H0 : HT) (s1 : Nat) (t : Nat) (S : Array Bool) (Γ : Gm) (w : World) (a : Act) : Prop where
  size : S.size = ops.length
  szt : s1 ≤ (M t).sz
  closed : Closed ops (listedOf S)
  tle : t ≤ kS tt ops ops.length
  eff : ∀ p o, ops[p]? = some o → cls tt o = 3 → (listedOf S p = true ↔ kS tt ops p < t)
  ext : Ext N h0 Γ0 w0 H0 Γ w (M t)
  defers : a.defers = []
  tsize : a.tmps.size = n
  hole : ∀ (j : Nat) o id, ops[j]? = some o → ids[j]? = some id → cls tt o = 2 → listedOf S j = false → Γ id = none
  new : ∀ (i : Nat) o d, ops[i]? = some o → listedOf S i = true → o.dst = some d → ∃ x, a.tmps[d]? = some x ∧ Rep Γ (val i) x
  old : ∀ d v, (∀ (i : Nat) o, ops[i]? = some o → listedOf S i = true → o.dst ≠ some d) → (es 0).get d = some v → ∃ x, a.tmps[d]? = some x ∧ Rep Γ v x

section
variable {P : Program} {tt : T RTI} {C : Cee} {n : Nat} {ops : List Oper} {ids : List Nat} {es : Nat → T RV} {val : Nat → RV} {M : Nat → HT} {N : Nat} {h0 : Heap} {Γ0 : Gm} {w0 : World} {H0 : HT} {s1 : Nat} {t : Nat} {S : Array Bool} {Γ : Gm} {w : World} {a : Act}

/-- A slot that a ready operation looks at. -/
theorem Mid.look (T : Tr tt C n ops ids es val M) (f : DFacts tt ops) (m : Mid tt n ops ids es val M N h0 Γ0 w0 H0 s1 t S Γ w a) {j : Nat} {o : Oper} (ho : ops[j]? = some o) (hun : listedOf S j = false)
    (hr : ∀ e ∈ o.after, Region.binds .any e = true → listedOf S e.on = true) {d : Nat} (hd : d ∈ o.looksAt ops.toArray) {v : RV} (hv : (es j).get d = some v) : ∃ x, a.tmps[d]? = some x ∧ Rep Γ v x := by
  have hj := (List.getElem?_eq_some_iff.1 ho).1
  by_cases hex : ∃ (i : Nat) (oi : Oper), i < j ∧ ops[i]? = some oi ∧ oi.dst = some d
  · obtain ⟨i, oi, hi, hoi, hdi⟩ := hex
    rw [T.new f hoi hdi j hi (by omega)] at hv
    simp at hv; subst hv
    refine m.new i oi d hoi ?_ hdi
    rcases f.pair i j oi o hi hoi ho with h1 | h1
    · exact mask_listed ho m.closed hr h1
    · exact absurd hd ((Oper.apart_spec h1).1 d hdi)
  · have hold := T.old (d := d) j (by omega) (fun i oi hi hoi hdi => hex ⟨i, oi, hi, hoi, hdi⟩)
    rw [hold] at hv
    refine m.old d v (fun i oi hoi hli hdi => ?_) hv
    have hne : i ≠ j := fun e => by subst e; rw [hun] at hli; simp at hli
    have hlt : j < i := by
      refine Nat.lt_of_le_of_ne (Nat.le_of_not_lt fun hlt => hex ⟨i, oi, hlt, hoi, hdi⟩) (fun e => hne e.symm)
    rcases f.pair j i o oi hlt ho hoi with h1 | h1
    · have := mask_listed hoi m.closed (fun e he hb => m.closed i oi hoi hli e he hb) h1
      rw [hun] at this; simp at this
    · exact (Oper.apart_spec h1).2.2 d hdi hd

/-- The same, at the region's end, where nothing behind writes it. -/
theorem Mid.lookF (T : Tr tt C n ops ids es val M) (f : DFacts tt ops) (m : Mid tt n ops ids es val M N h0 Γ0 w0 H0 s1 t S Γ w a) {j : Nat} {o : Oper} (ho : ops[j]? = some o) (hun : listedOf S j = false)
    (hr : ∀ e ∈ o.after, Region.binds .any e = true → listedOf S e.on = true) {d : Nat} (hd : d ∈ o.looksAt ops.toArray) (hfin : ∀ (i : Nat) y, ¬ i < j → ops[i]? = some y → y.dst ≠ some d) {v : RV} (hv : (es ops.length).get d = some v) : ∃ x, a.tmps[d]? = some x ∧ Rep Γ v x := by
  have hj := (List.getElem?_eq_some_iff.1 ho).1
  refine m.look T f ho hun hr hd ?_
  by_cases hex : ∃ (i : Nat) (oi : Oper), i < j ∧ ops[i]? = some oi ∧ oi.dst = some d
  · obtain ⟨i, oi, hi, hoi, hdi⟩ := hex
    rw [T.new f hoi hdi _ (by omega) (Nat.le_refl _)] at hv
    rw [T.new f hoi hdi j hi (by omega), hv]
  · rw [T.old (d := d) _ (Nat.le_refl _) (fun i oi hi hoi hdi => by
      by_cases h : i < j
      · exact hex ⟨i, oi, h, hoi, hdi⟩
      · exact hfin i oi h hoi hdi)] at hv
    rw [T.old (d := d) j (by omega) (fun i oi hi hoi hdi => hex ⟨i, oi, hi, hoi, hdi⟩), hv]

theorem looks_ev {o : Oper} {env : T RV} (h : ∀ d v, d ∈ o.looksAt ops.toArray → env.get d = some v → ∃ x, a.tmps[d]? = some x ∧ Rep Γ v x) : EvOk Γ env a o.op.operands.toList ∧ gdOk Γ ops env a o := by
  refine ⟨fun x hx v hv => ?_, fun j want oj d v hg hoj hd hv => ?_⟩
  · cases x with
    | tmp d =>
      obtain ⟨y, h1, h2⟩ := h d v (by
        unfold Oper.looksAt
        refine List.mem_append.2 (.inl ?_)
        rw [List.mem_filterMap]
        exact ⟨.tmp d, hx, rfl⟩) hv
      obtain ⟨ht, h3⟩ := Array.getElem?_eq_some_iff.1 h1
      simpa [Act.eval, Array.getD, ht, h3] using h2
    | const c => exact rep_ofVal hv
    | func f =>
      simp only [ev, Option.some.injEq] at hv
      subst hv
      exact .func f [] [] rfl (by simp)
    | global g => simp [ev] at hv
  · refine h d v ?_ hv
    unfold Oper.looksAt
    refine List.mem_append.2 (.inr ?_)
    rw [hg]
    simp [hoj, hd]

theorem Mid.adm (m : Mid tt n ops ids es val M N h0 Γ0 w0 H0 s1 t S Γ w a) {j : Nat} {o : Oper} (ho : ops[j]? = some o) (hun : listedOf S j = false) (hr : ∀ e ∈ o.after, Region.binds .any e = true → listedOf S e.on = true) :
    Rx.adm tt ops (masksFrom [] ops) j t = true := by
  unfold Rx.adm
  rw [List.all_eq_true]
  intro p hp
  have hp' := List.mem_range.1 hp
  have hop := List.getElem?_eq_getElem hp'
  cases hs : isSat tt ops p with
  | false => rfl
  | true =>
    have hc := (isSat_iff hop).1 hs
    rw [ifB_true, ifB_eq]
    split
    · rename_i hlt
      rw [Nat.blt_eq] at hlt
      have hl := (m.eff p _ hop hc).2 hlt
      cases hb : ((masksFrom [] ops).getD p 0).testBit j with
      | false => rfl
      | true =>
        have := mask_listed hop m.closed (fun e he hb => m.closed p _ hop hl e he hb) hb
        rw [hun] at this; simp at this
    · rename_i hlt
      cases hb : ((masksFrom [] ops).getD j 0).testBit p with
      | false => rfl
      | true =>
        have := (m.eff p _ hop hc).1 (mask_listed ho m.closed hr hb)
        rw [← Nat.blt_eq] at this
        exact absurd this hlt

/-- The next of those with effects is the next in the text. -/
theorem Mid.turn (f : DFacts tt ops) (m : Mid tt n ops ids es val M N h0 Γ0 w0 H0 s1 t S Γ w a) {j : Nat} {o : Oper} (ho : ops[j]? = some o) (hun : listedOf S j = false) (hr : ∀ e ∈ o.after, Region.binds .any e = true → listedOf S e.on = true)
    (hc : cls tt o = 3) : kS tt ops j = t := by
  rcases Nat.lt_trichotomy (kS tt ops j) t with h | h | h
  · have := (m.eff j o ho hc).2 h
    rw [hun] at this; simp at this
  · exact h
  · obtain ⟨p, x, h1, h2, h3, h4⟩ := kS_at (tt := tt) (l := ops) (j := j) (Nat.le_of_lt (List.getElem?_eq_some_iff.1 ho).1) h
    have := (m.eff p x h2 h3).1 (mask_listed ho m.closed hr (f.chain p j x o h1 h2 ho h3 hc))
    omega

/-- An operation has come up. -/
theorem Mid.close (m : Mid tt n ops ids es val M N h0 Γ0 w0 H0 s1 t S Γ w a) (f : DFacts tt ops) (hidne : ∀ (i j : Nat) x y id, ops[i]? = some x → ops[j]? = some y → cls tt x = 2 → cls tt y = 2 → ids[i]? = some id → ids[j]? = some id → i = j)
    {j : Nat} {o : Oper} (ho : ops[j]? = some o) (hun : listedOf S j = false) (hr : ∀ e ∈ o.after, Region.binds .any e = true → S.getD e.on false = true) (hn : ∀ d, o.dst = some d → d < n)
    {t' : Nat} (ht' : t' = if cls tt o = 3 then t + 1 else t) (hk : cls tt o = 3 → kS tt ops j = t) (hs1 : s1 ≤ (M t').sz) {Γ' : Gm} {w' : World} {x : Value} (hx : Ext N h0 Γ0 w0 H0 Γ' w' (M t')) (hg : Gle Γ Γ') (hrep : ∀ d, o.dst = some d → Rep Γ' (val j) x)
    (hh : ∀ (i : Nat) oi id, ops[i]? = some oi → ids[i]? = some id → cls tt oi = 2 → i ≠ j → Γ id = none → Γ' id = none) :
    Mid tt n ops ids es val M N h0 Γ0 w0 H0 s1 t' (S.setIfInBounds j true) Γ' w' (a.put o.dst x) := by
  have hj : j < S.size := by rw [m.size]; exact (List.getElem?_eq_some_iff.1 ho).1
  have hput : ∀ d, o.dst ≠ some d → (a.put o.dst x).tmps[d]? = a.tmps[d]? := fun d hd => by
    cases hdst : o.dst with
    | none => rfl
    | some e =>
      simp only [Act.put]
      rw [Array.getElem?_setIfInBounds_ne (fun h => hd (by rw [hdst, h]))]
  refine ⟨by simpa using m.size, hs1, closed_set m.size m.closed ho hr, ?_, fun p op hop hc => ?_, hx, by cases o.dst <;> exact m.defers, by cases o.dst <;> simp [Act.put, m.tsize], fun i oi id hoi hid hc hli => ?_, fun i oi d hoi hli hd => ?_, fun d v hno hv => ?_⟩
  · rw [ht']
    split
    · rename_i hc
      have h1 := hk hc
      have h2 := kS_succ (tt := tt) ho
      rw [if_pos hc] at h2
      have h3 := kS_le (tt := tt) ops (j + 1) ops.length (List.getElem?_eq_some_iff.1 ho).1
      omega
    · exact m.tle
  · rw [listedOf_set hj]
    by_cases hpj : p = j
    · subst hpj
      rw [ho] at hop; simp at hop; subst hop
      simp only [if_true, true_iff]
      rw [ht', if_pos hc]
      have := hk hc
      omega
    · rw [if_neg hpj, m.eff p op hop hc, ht']
      split
      · rename_i hcj
        have h1 := hk hcj
        have h2 : kS tt ops p ≠ kS tt ops j := fun e => hpj (kS_inj hop ho hc hcj e)
        omega
      · rfl
  · rw [listedOf_set hj] at hli
    by_cases hij : i = j
    · rw [if_pos hij] at hli; simp at hli
    · rw [if_neg hij] at hli
      exact hh i oi id hoi hid hc hij (m.hole i oi id hoi hid hc hli)
  · rw [listedOf_set hj] at hli
    by_cases hij : i = j
    · subst hij
      rw [ho] at hoi; simp at hoi; subst hoi
      refine ⟨x, ?_, hrep d hd⟩
      rw [hd]
      simp only [Act.put]
      rw [Array.getElem?_setIfInBounds, if_pos rfl, if_pos (by rw [m.tsize]; exact hn d hd)]
    · rw [if_neg hij] at hli
      obtain ⟨y, h1, h2⟩ := m.new i oi d hoi hli hd
      exact ⟨y, by rw [hput d (fun e => hij (f.nd i j _ _ d hoi ho hd e))]; exact h1, h2.mono hg⟩
  · obtain ⟨y, h1, h2⟩ := m.old d v (fun i oi hoi hli => hno i oi hoi (by
      rw [listedOf_set hj]
      by_cases hij : i = j
      · rw [if_pos hij]
      · rw [if_neg hij]; exact hli)) hv
    exact ⟨y, by rw [hput d (hno j o ho (by rw [listedOf_set hj, if_pos rfl]))]; exact h1, h2.mono hg⟩

theorem cells_is {H : HT} {l e : Nat} {z : List RV} (h : cellsIs H l e z = true) : ∃ m t, H.get l = some (.cells e m t) ∧ m = z.length ∧ Holds t z := by
  unfold cellsIs writeK at h
  obtain ⟨o, h1, h⟩ := onOpt_true h
  split at h
  · rename_i g m t
    rw [ifB_and, nbeq, ifB_and, nbeq, lenL_eq] at h
    obtain ⟨rfl, rfl, h⟩ := h
    have : ∃ cs, eqRVs cs z = true ∧ cs.length = z.length ∧ ∀ i, i < z.length → t.get (0 + i) = cs[i]? := by
      have gen : ∀ (n off : Nat) (k : List RV → Bool), getsK t n off false k = true → ∃ cs, k cs = true ∧ cs.length = n ∧ ∀ i, i < n → t.get (off + i) = cs[i]? := by
        intro n
        induction n with
        | zero => intro off k e; exact ⟨[], e, rfl, fun i hi => by omega⟩
        | succ n ih =>
          intro off k e
          have e : onOpt (t.get off) false (fun v => getsK t n (off + 1) false fun r => k (v :: r)) = true := e
          obtain ⟨v, h1, e⟩ := onOpt_true e
          obtain ⟨cs, h2, h3, h4⟩ := ih (off + 1) _ e
          refine ⟨v :: cs, h2, by simp [h3], fun i hi => ?_⟩
          cases i with
          | zero => simpa using h1
          | succ i => rw [List.getElem?_cons_succ, ← h4 i (by omega), show off + (i + 1) = off + 1 + i by omega]
      exact gen _ _ _ h
    obtain ⟨cs, h2, h3, h4⟩ := this
    obtain rfl := eqRVs_eq _ _ h2
    exact ⟨_, t, h1, rfl, fun i hi => by have := h4 i hi; simpa using this⟩
  · simp at h

/-- What is laid in a place of its own: the run. -/
theorem pre_run (hT : TtOk P tt) {op : Op} {g : Nat} {cs : List RV} (h : preC tt op = some (g, cs)) (w : World) : ∃ (xs : List Value) (y : Value) (E : TypeId),
    (∀ o : Oper, o.op = op → (execOp a.eval o).run P w = .ok (.value y) { w with heap := w.heap.push (.cells ⟨xs⟩ E (0, 0)) }) ∧ Reps Γ cs xs ∧ (∀ x ∈ xs, x.oneCell' = true) ∧ (g = 0 ∨ g = E + 1) ∧
    ∀ (Γ' : Gm) (id : Nat), Γ' id = some ⟨w.heap.size, 0, xs.length⟩ → Rep Γ' (preVal tt op id) y := by
  unfold preC at h
  split at h
  · rename_i ty
    replace h := tyK_some h; obtain ⟨ti, hti, h⟩ := h
    replace h := onOpt_some_of h; obtain ⟨z, hz, h⟩ := h
    simp only [Option.some.injEq, Prod.mk.injEq] at h
    obtain ⟨rfl, rfl⟩ := h
    obtain ⟨tok, rfl⟩ := hT _ _ hti
    obtain ⟨v0, z1, z2, z3, _, _⟩ := tok.z z hz
    obtain ⟨x0, z4, z5⟩ := zeroT_run (P := P) w z1
    obtain ⟨r1, r2⟩ := rep_cells (Γ := Γ) (rep_ofVal z5) (ok1_ofVal z5)
    rw [z2] at r1
    refine ⟨x0.cells.toList, .pointer (some ⟨w.heap.size, 0, none⟩), ti.t, fun o ho => ?_, r1, r2, .inr rfl, fun Γ' id hΓ => ?_⟩
    · unfold execOp
      rw [ho]
      simp [Instr.alloc, z4, newVar, newRow]
    · exact .ptr id 0 _ hΓ
  · rename_i t len parts
    replace h := onOpt_some_of h; obtain ⟨⟨sz, cs'⟩, hb, h⟩ := h
    simp only [Option.some.injEq, Prod.mk.injEq] at h
    obtain ⟨rfl, rfl⟩ := h
    have re : EvOk Γ (.e : T RV) a (parts.toList.map (·.2)) := fun x _ v hv => by
      cases x with
      | tmp t => simp [ev, T.get_e] at hv
      | const c => exact rep_ofVal hv
      | func f =>
        simp only [ev, Option.some.injEq] at hv
        subst hv
        exact .func f [] [] rfl (by simp)
      | global g => simp [ev] at hv
    obtain ⟨ys, E, r1, r2, hlen, hrun⟩ := bsCells_run hT re hb w
    refine ⟨ys, .slice (some ⟨w.heap.size, 0, none⟩) len len, E, fun o ho => ?_, r1, r2, .inl rfl, fun Γ' id hΓ => ?_⟩
    · unfold execOp
      rw [ho]
      simp only
      have e2 : (parts.map fun (i, x) => (i, a.eval x)) = ⟨parts.toList.map fun p => (p.1, a.eval p.2)⟩ := by apply Array.ext'; simp
      rw [e2]; exact hrun
    · unfold preVal
      simp only [hb, onOpt_some]
      exact .sl id 0 len sz (some len) ⟨w.heap.size, 0, ys.length⟩ ⟨w.heap.size, 0, none⟩ len hΓ (Nat.le_refl _) (fun k h => by simpa using h) (fun _ => ⟨rfl, by have := r1.1; show 0 + 0 + len * sz ≤ ys.length; omega⟩)
  · simp at h
theorem Mid.step (hT : TtOk P tt) (hC : SoundR P C) (T : Tr tt C n ops ids es val M) (f : DFacts tt ops) (hsz : ∀ (j : Nat) o id, ops[j]? = some o → ids[j]? = some id → cls tt o = 2 → id < s1)
    (hsz0 : ∀ (j : Nat) o id, ops[j]? = some o → ids[j]? = some id → cls tt o = 2 → H0.sz ≤ id)
    (hidne : ∀ (i j : Nat) x y id, ops[i]? = some x → ops[j]? = some y → cls tt x = 2 → cls tt y = 2 → ids[i]? = some id → ids[j]? = some id → i = j) {Ms : List HT} (hMs : ∀ t, t ≤ kS tt ops ops.length → Ms[t]? = some (M t))
    (hchk : chkD tt C ops ids (es ops.length) Ms (pairsD tt ops) = true) (m : Mid tt n ops ids es val M N h0 Γ0 w0 H0 s1 t S Γ w a) {j : Nat} {o : Oper} (ho : ops[j]? = some o) (hun : listedOf S j = false) (hr : ∀ e ∈ o.after, Region.binds .any e = true → S.getD e.on false = true)
    (Q : Exit → Act → World → Prop) (K : Act → World → Prop) (hK : ∀ t' Γ' w' a', Mid tt n ops ids es val M N h0 Γ0 w0 H0 s1 t' (S.setIfInBounds j true) Γ' w' a' → K a' w') : wpOp P ops.toArray Q j K a w := by
  have hr' : ∀ e ∈ o.after, Region.binds .any e = true → listedOf S e.on = true := hr
  obtain ⟨id, hid, st⟩ := T.at ho
  have hlook := fun d v (hd : d ∈ o.looksAt ops.toArray) (hv : (es j).get d = some v) => m.look T f ho hun hr' hd hv
  obtain ⟨hev, hgd⟩ := looks_ev hlook
  have hoa : ops.toArray[j]? = some o := by simpa using ho
  have hkt : cls tt o = 3 → kS tt ops j = t := m.turn f ho hun hr'
  have hks := kS_succ (tt := tt) ho
  have holes : ∀ {Γ' : Gm} {w' : World} {H' : HT}, Ext N h0 Γ w (M t) Γ' w' H' → ∀ (i : Nat) oi id, ops[i]? = some oi → ids[i]? = some id → cls tt oi = 2 → i ≠ j → Γ id = none → Γ' id = none :=
    fun {Γ' w' H'} x i oi id' hoi hid' hc _ hn => x.hole id' (Nat.lt_of_lt_of_le (hsz i oi id' hoi hid' hc) m.szt) hn
  unfold wpOp
  rw [hoa]
  simp only
  rcases st.run with ⟨hw, hrun⟩ | ⟨hw, hv, hM⟩
  · rw [if_pos (wantV_run hgd hw)]
    refine .inl ?_
    -- what the operation does, in the memory as it is now
    have does : ∀ {t' : Nat} (_ : t' = if cls tt o = 3 then t + 1 else t), cls tt o ≠ 2 → opV tt C (es j) (M t) o.op = .ok (val j) (M t') → o.wp P a w K Q := by
      intro t' ht' hc2 hop
      refine Oper.wp_mono ?_ (opV_done hT hC m.ext.mem hev hop Q)
      rintro a1 w1 ⟨x, Γ1, rfl, hx, hrep⟩
      exact hK t' Γ1 w1 _ (m.close f hidne ho hun hr st.lt ht' hkt (Nat.le_trans m.szt hx.sz) (m.ext.trans hx) hx.gle (fun _ _ => hrep) (holes hx))
    rcases hrun with ⟨hc, hv, hM⟩ | ⟨hc, hop⟩
    · -- a zero variable
      have hmem := pairsD_mem ho (.inr hc) m.tle (m.adm ho hun hr') (fun h => by omega)
      have hck := chkD_mem hchk j t hmem
      rw [nthL_eq, ho, onOpt_some, nthL_eq, hMs t m.tle, onOpt_some, hc] at hck
      rw [show Nat.beq 2 2 = true from rfl, ifB_true] at hck
      obtain ⟨⟨g, z⟩, hpre, hck⟩ := onOpt_true hck
      rw [nthL_eq, hid, onOpt_some] at hck
      obtain ⟨mm, tr, h1, rfl, h3⟩ := cells_is hck
      have hnone := m.hole j o id ho hid hc hun
      obtain ⟨xs, y, E, hrunA, r1, r2, hgE, hy⟩ := pre_run (Γ := Γ) (a := a) hT hpre w
      have hlt : id < (M t).sz := Nat.lt_of_lt_of_le (hsz j o id ho hid hc) m.szt
      have hmem1 : Mem N h0 (put Γ id ⟨w.heap.size, 0, xs.length⟩) (w.heap.push (.cells ⟨xs⟩ E (0, 0))) (M t) := by
        refine mem_at m.ext.mem hnone hlt (Nat.le_refl _) (by simp) (fun b hb hlt => ?_) (by simp) m.ext.mem.size (fun l' p hp hpb => ?_) ?_ (fun i => by
          split
          · rename_i hi; rw [hi]; exact h1
          · rfl)
        · rw [Array.getElem?_push, if_neg (by omega)]
        · have := m.ext.mem.blk l' p hp
          simp at hpb; omega
        · have := orep_new (w := w) (cs := z) (xs := xs) (rest := []) (t := tr) (E := E) (fz := (0, 0)) (l := id) (q := ⟨w.heap.size, 0, xs.length⟩) r1 r2 h3 (gle_put hnone) rfl rfl (by simp) (unfz_zero _) hgE
          rw [List.append_nil] at this
          exact this
      have hext : Ext N h0 Γ0 w0 H0 (put Γ id ⟨w.heap.size, 0, xs.length⟩) { w with heap := w.heap.push (.cells ⟨xs⟩ E (0, 0)) } (M t) := by
        refine ⟨m.ext.gle.trans (gle_put hnone), hmem1, m.ext.sz, fun l hl hn => ?_, m.ext.kept.trans ⟨rfl, rfl, by simp⟩⟩
        have := hsz0 j o id ho hid hc
        unfold put
        rw [if_neg (by omega)]
        exact m.ext.hole l hl hn
      unfold Oper.wp
      rw [hrunA o rfl]
      show K (a.put o.dst _) _
      refine hK t _ _ _ (m.close f hidne ho hun hr st.lt (by rw [if_neg (by omega)]) hkt m.szt hext (gle_put hnone) (fun _ _ => ?_) (fun i oi id' hoi hid' hci hij hn => ?_))
      · rw [hv]
        exact hy _ id (by simp [put])
      · unfold put
        rw [if_neg (fun e => hij (by subst e; exact hidne i j oi o id' hoi ho hci hc hid' hid))]
        exact hn
    · by_cases hc3 : cls tt o = 3
      · refine does (t' := t + 1) (by rw [if_pos hc3]) hc ?_
        rw [if_pos hc3] at hks
        rw [hks, hkt hc3] at hop
        exact hop
      · rw [if_neg hc3] at hks
        rw [hks] at hop
        by_cases hk : t = kS tt ops j
        · exact does (t' := t) (by rw [if_neg hc3]) hc (by rw [hk]; exact hop)
        · by_cases hc0 : cls tt o = 0
          · exact does (t' := t) (by rw [if_neg hc3]) hc (cls_pure hc0 hop _)
          · have hc1 : cls tt o = 1 := by have := cls_le (tt := tt) o; omega
            have hmem := pairsD_mem ho (.inl hc1) m.tle (m.adm ho hun hr') (fun _ => hk)
            have hck := chkD_mem hchk j t hmem
            rw [nthL_eq, ho, onOpt_some, nthL_eq, hMs t m.tle, onOpt_some, hc1] at hck
            rw [show Nat.beq 1 2 = false from rfl, ifB_false] at hck
            obtain ⟨b, hb, hck⟩ := onOpt_true hck
            have hlookF := fun d v (hd : d ∈ o.looksAt ops.toArray) (hv : (es ops.length).get d = some v) =>
              m.lookF T f ho hun hr' hd (fun i y hi hy hdy => f.fin j t hmem i o y d hi ho hy hc hdy hd) hv
            obtain ⟨hevF, hgdF⟩ := looks_ev hlookF
            have hbt : b = true := by
              have h1 := wantV_run hgd hw
              have h2 := wantV_run hgdF hb
              rw [h1] at h2; exact h2.symm
            subst hbt
            rw [ifB_true] at hck
            split at hck
            · rename_i u H' hopF
              have hsame := cls_read (by omega) hopF
              subst hsame
              refine Oper.wp_mono ?_ (opV_done hT hC m.ext.mem hevF hopF Q)
              rintro a1 w1 ⟨x, Γ1, rfl, hx, hrep⟩
              refine hK t Γ1 w1 _ (m.close f hidne ho hun hr st.lt (by rw [if_neg hc3]) hkt (Nat.le_trans m.szt hx.sz) (m.ext.trans hx) hx.gle (fun d hd => ?_) (holes hx))
              rw [hd] at hck
              simp only at hck
              rw [T.new f ho hd _ (List.getElem?_eq_some_iff.1 ho).1 (Nat.le_refl _), onOpt_some] at hck
              rw [← eqRV_eq _ _ hck]; exact hrep
            · simp at hck
  · rw [if_neg (by rw [wantV_run hgd hw]; simp)]
    have hM' : M (if cls tt o = 3 then t + 1 else t) = M t := by
      by_cases hc3 : cls tt o = 3
      · rw [if_pos hc3] at hks ⊢
        rw [hks, hkt hc3] at hM
        exact hM
      · rw [if_neg hc3]
    refine hK _ Γ w _ (m.close f hidne ho hun hr st.lt rfl hkt (by rw [hM']; exact m.szt) (by rw [hM']; exact m.ext) (Gle.refl Γ) (fun _ _ => by rw [hv]; exact .undef) (fun _ _ _ _ _ _ _ hn => hn))

/-- ALL ORDERS. -/
theorem all_orders (hT : TtOk P tt) (hC : SoundR P C) (T : Tr tt C n ops ids es val M) (f : DFacts tt ops) (hsz : ∀ (j : Nat) o id, ops[j]? = some o → ids[j]? = some id → cls tt o = 2 → id < s1)
    (hsz0 : ∀ (j : Nat) o id, ops[j]? = some o → ids[j]? = some id → cls tt o = 2 → H0.sz ≤ id)
    (hidne : ∀ (i j : Nat) x y id, ops[i]? = some x → ops[j]? = some y → cls tt x = 2 → cls tt y = 2 → ids[i]? = some id → ids[j]? = some id → i = j) {Ms : List HT} (hMs : ∀ t, t ≤ kS tt ops ops.length → Ms[t]? = some (M t))
    (hchk : chkD tt C ops ids (es ops.length) Ms (pairsD tt ops) = true) {Q : Exit → Act → World → Prop}
    (hQ : ∀ Γ' w' a', Ext N h0 Γ0 w0 H0 Γ' w' (M (kS tt ops ops.length)) → EnvOk Γ' n (es ops.length) a' → Q .normal a' w') :
    ∀ (fuel t : Nat) (S : Array Bool) (Γ : Gm) (w : World) (a : Act), Mid tt n ops ids es val M N h0 Γ0 w0 H0 s1 t S Γ w a → unl S ≤ fuel → wpAny P .any ops.toArray Q fuel S a w := by
  have done : ∀ (t : Nat) (S : Array Bool) (Γ : Gm) (w : World) (a : Act), Mid tt n ops ids es val M N h0 Γ0 w0 H0 s1 t S Γ w a → (∀ i, i < ops.length → listedOf S i = true) → Q .normal a w := by
    intro t S Γ w a m hall
    have ht : t = kS tt ops ops.length := by
      refine Nat.le_antisymm m.tle (Nat.le_of_not_lt fun hlt => ?_)
      obtain ⟨p, x, h1, h2, h3, h4⟩ := kS_at (tt := tt) (l := ops) (Nat.le_refl _) hlt
      have := (m.eff p x h2 h3).1 (hall p h1)
      omega
    subst ht
    refine hQ Γ w a m.ext ⟨m.defers, m.tsize, fun d v hv => ?_⟩
    by_cases hex : ∃ (i : Nat) (oi : Oper), i < ops.length ∧ ops[i]? = some oi ∧ oi.dst = some d
    · obtain ⟨i, oi, hi, hoi, hdi⟩ := hex
      rw [T.new f hoi hdi _ hi (Nat.le_refl _)] at hv
      simp at hv; subst hv
      exact m.new i oi d hoi (hall i hi) hdi
    · rw [T.old (d := d) _ (Nat.le_refl _) (fun i oi hi hoi hdi => hex ⟨i, oi, hi, hoi, hdi⟩)] at hv
      exact m.old d v (fun i oi hoi _ hdi => hex ⟨i, oi, (List.getElem?_eq_some_iff.1 hoi).1, hoi, hdi⟩) hv
  intro fuel
  induction fuel with
  | zero =>
    intro t S Γ w a m hu
    have hall : ∀ i, i < ops.length → listedOf S i = true := fun i hi => by
      cases h : listedOf S i with
      | true => rfl
      | false => have := unl_pos (listed_false (by rw [m.size]; exact hi) h); omega
    refine ⟨?_, done t S Γ w a m hall⟩
    rw [List.eq_nil_iff_forall_not_mem]
    intro i hi
    obtain ⟨o, h1, h2, _⟩ := ready_iff.1 hi
    have hil := (List.getElem?_eq_some_iff.1 h1).1
    rw [lst_of_listedOf (by rw [m.size]; exact hil), hall i hil] at h2
    simp at h2
  | succ fuel ih =>
    intro t S Γ w a m hu
    refine ⟨fun hnil => ?_, fun i hi => ?_⟩
    · refine done t S Γ w a m fun i hi => ?_
      -- the first that is not listed would be ready
      have first : ∀ k, k ≤ ops.length → ∀ i, i < k → listedOf S i = true := by
        intro k
        induction k with
        | zero => intro _ i hi; omega
        | succ k ihk =>
          intro hk i hi
          by_cases hik : i = k
          · subst hik
            cases h : listedOf S i with
            | true => rfl
            | false =>
              exfalso
              have : i ∈ Region.ready .any ops.toArray S := ready_iff.2 ⟨ops[i], List.getElem?_eq_getElem hk, by rw [lst_of_listedOf (by rw [m.size]; exact hk)]; exact h, fun e he hb => ihk (by omega) e.on (f.back i _ (List.getElem?_eq_getElem hk) e he hb)⟩
              rw [hnil] at this; simp at this
          · exact ihk (by omega) i (by omega)
      exact first ops.length (Nat.le_refl _) i hi
    · obtain ⟨o, h1, h2, h3⟩ := ready_iff.1 hi
      have hil := (List.getElem?_eq_some_iff.1 h1).1
      rw [lst_of_listedOf (by rw [m.size]; exact hil)] at h2
      have hset := unl_set (listed_false (by rw [m.size]; exact hil) h2)
      exact m.step hT hC T f hsz hsz0 hidne hMs hchk h1 h2 h3 Q _ (fun t' Γ' w' a' m' => ih t' _ Γ' w' a' m' (by omega))

theorem drawn_sound (hT : TtOk P tt) (hC : SoundR P C) (hm : P.follows .mixedOrders = true) {id : Nat} {Q : Exit → Act → World → Prop} {env env' : T RV} {H H' : HT} (e : drawV tt C n ops env H = .nrm env' H') (m : Mem N h0 Γ w.heap H) (re : EnvOk Γ n env a)
    (hQ : ∀ Γ' w' a', Ext N h0 Γ w H Γ' w' H' → EnvOk Γ' n env' a' → Q .normal a' w') : (Code.region id ops.toArray true).wp P Q a w := by
  unfold drawV at e
  rw [ifB_eq] at e
  split at e
  · rename_i hok
    have f := drawFacts hok
    replace e := onOpt_eq e
    rcases e with ⟨_, e⟩ | ⟨p, hp, e⟩
    · simp at e
    obtain ⟨ids, H1⟩ := p
    split at e
    · rename_i env1 Ms hrun
      rw [ifB_eq] at e
      split at e
      · rename_i hchk
        replace e := onOpt_eq e
        rcases e with ⟨_, e⟩ | ⟨H2, hH2, e⟩
        · simp at e
        simp at e
        obtain ⟨rfl, rfl⟩ := e
        obtain ⟨p1, p2, p3, p4, p5⟩ := preV_spec hp
        obtain ⟨es, val, M, e1, e2, e3, e4, e5, e6⟩ := runD_trace hrun
        have T : Tr tt C n ops ids es val M := ⟨e4, e6⟩
        subst e3
        have hH : H2 = M (kS tt ops ops.length) := by
          rw [nthL_eq, e5 _ (Nat.le_refl _)] at hH2
          simpa using hH2.symm
        subst hH
        refine wp_region_any hm (all_orders (s1 := H1.sz) (N := N) (h0 := h0) (Γ0 := Γ) (w0 := w) (H0 := H) hT hC T f (fun j o id ho hi hc => (p4 j o id ho hi hc).2) (fun j o id ho hi hc => (p4 j o id ho hi hc).1) p5 e5 hchk (fun Γ' w' a' h1 h2 => hQ Γ' w' a' h1 h2) _ 0 _ Γ _ a ?_ ?_)
        · have hrep : ∀ i, listedOf (Array.replicate ops.toArray.size false) i = false := fun i => by
            unfold listedOf; simp [Array.getD]
          refine ⟨by simp, by rw [e2]; exact Nat.le_refl _, fun j o _ hl => by rw [hrep] at hl; simp at hl, Nat.zero_le _, fun p o _ _ => ?_, ?_, re.1, re.2.1, fun j o id ho hi hc _ => ?_, fun i o d _ hl => by rw [hrep] at hl; simp at hl, fun d v _ hv => ?_⟩
          · rw [hrep]; simp
          · rw [e2]
            exact ⟨Gle.refl Γ, p3 N h0 _ Γ m, p1, fun _ _ h => h, ⟨rfl, rfl, Nat.le_refl _⟩⟩
          · exact mem_none m (p4 j o id ho hi hc).1
          · rw [e1] at hv
            exact re.2.2 d v hv
        · unfold unl
          simp [List.count_replicate]
      · simp at e
    · simp at e
  · simp at e
end
end Go.Rx

/- Closed runs: code, functions. -/
namespace Go.Rx

/-! ### The evaluator -/
noncomputable def loopF (f : T RV → HT → Out) (k : Nat) : T RV → HT → Out :=
  @Nat.rec (fun _ => T RV → HT → Out) (fun _ _ => .bad) (fun _ ih env H => match f env H with | .nrm env H => ih env H | .ext id env H => .ext id env H | .ret env H => .ret env H | .bad => .bad) k

section
variable (tt : T RTI) (C : Cee) (n : Nat) (big : Nat)
noncomputable def runC (c : Code) : T RV → HT → Out :=
  @Code.rec (fun _ => T RV → HT → Out)
    (fun env H => .nrm env H)
    (fun _ ops draw env H => ifB draw (drawV tt C n ops.toList env H) (opsV tt C n ops.toList ops.toList env H))
    (fun _ _ ra rb env H => match ra env H with | .nrm env H => rb env H | .ext id env H => .ext id env H | .ret env H => .ret env H | .bad => .bad)
    (fun c _ _ ra rb env H => onOpt (ev env c) .bad fun v => match v with | .bool t => ifB t (ra env H) (rb env H) | _ => .bad)
    (fun id _ rb env H => match rb env H with | .nrm env H => .nrm env H | .ext j env H => ifB (Nat.beq j id) (.nrm env H) (.ext j env H) | .ret env H => .ret env H | .bad => .bad)
    (fun _ rb env H => loopF rb big env H)
    (fun _ _ _ _ _ _ _ _ => .bad)
    (fun id env H => .ext id env H)
    (fun _ _ _ _ => .bad)
    (fun _ env H => .nrm env H)
    (fun _ _ _ => .bad)
    (fun env H => .ret env H)
    (fun _ _ _ => .bad) c

noncomputable def resVs (env : T RV) (H : HT) : List ResultVar → Option (List RV)
  | [] => some []
  | .tmp t :: r => onOpt (env.get t) none fun v => onOpt (resVs env H r) none fun vs => some (v :: vs)
  | .cell t ty :: r => onOpt (env.get t) none fun u => tyK tt ty none fun ti => onOpt (loadV ti H u) none fun v => onOpt (resVs env H r) none fun vs => some (v :: vs)
noncomputable def resV (rs : List ResultVar) (env : T RV) (H : HT) : OR :=
  onOpt (resVs tt env H rs) .bad fun vs => match vs with
    | [v] => .ok v H
    | vs => .ok (.tup vs) H
end

/-- A function: its code; a part of the library that the model knows. -/
inductive FE where
  | code (n : Nat) (res : List ResultVar) (c : Code)
  | same
  | known (b : Bool)
  | pure (g : List RV → Option RV)
  | room (e : TypeId)

/-- Room for n bytes, of whatever bytes. -/
noncomputable def roomV (e : TypeId) (args : List RV) (H : HT) : OR :=
  match args with
  | [.int .i64 (.ofNat n)] => ifB (Nat.ble n 1000000) (newCells H (Nat.succ e) [] fun l H => .ok (.sl l 0 n 1 none) H) .bad
  | _ => .bad
noncomputable def knownV (b : Bool) (args : List RV) (H : HT) : OR := match args with | [] => .ok (.bool b) H | _ => .bad
noncomputable def sameV (args : List RV) (H : HT) : OR := match args with | [x] => .ok x H | _ => .bad
noncomputable def funF (tt : T RTI) (ft : T FE) (big : Nat) (d : Nat) : Cee :=
  @Nat.rec (fun _ => Cee) (fun _ _ _ => .bad) (fun _ C f args H => onOpt (ft.get f) .bad fun fe => match fe with
    | .code n res c => forceN (lenL args) fun k => ifB (Nat.ble k n) (setsK args .e 0 fun env => match runC tt C n big c env H with
        | .nrm env H => resV tt res env H
        | .ret env H => resV tt res env H
        | _ => .bad) .bad
    | .same => sameV args H
    | .known b => knownV b args H
    | .pure g => okV (g args) H
    | .room e => roomV e args H) d

/-! ### What it says -/
section
variable {P : Program} {N : Nat} {h0 : Heap} {Γ : Gm} {w : World} {H H' : HT} {tt : T RTI} {C : Cee} {n : Nat} {env : T RV} {a : Act} {big : Nat}

def OutOk (N : Nat) (h0 : Heap) (Γ : Gm) (w : World) (H : HT) (n : Nat) (R : Exit → Act → World → Prop) : Out → Prop
  | .nrm env' H' => ∀ Γ' w' a', Ext N h0 Γ w H Γ' w' H' → EnvOk Γ' n env' a' → R .normal a' w'
  | .ext id env' H' => ∀ Γ' w' a', Ext N h0 Γ w H Γ' w' H' → EnvOk Γ' n env' a' → R (.exit id) a' w'
  | .ret env' H' => ∀ Γ' w' a', Ext N h0 Γ w H Γ' w' H' → EnvOk Γ' n env' a' → R .ret a' w'
  | .bad => False

theorem OutOk.ext {R : Exit → Act → World → Prop} {o : Out} (h : OutOk N h0 Γ w H n R o) {Γ' : Gm} {w' : World} {H' : HT} (x : Ext N h0 Γ w H Γ' w' H') : OutOk N h0 Γ' w' H' n R o := by
  cases o with
  | bad => exact h
  | _ => exact fun Γ2 w2 a2 x2 r2 => h Γ2 w2 a2 (x.trans x2) r2

theorem runC_sound (hT : TtOk P tt) (hC : SoundR P C) (hm : P.follows .mixedOrders = true) : ∀ (c : Code) (env : T RV) (H : HT) (Γ : Gm) (w : World) (a : Act) (R : Exit → Act → World → Prop), Mem N h0 Γ w.heap H → EnvOk Γ n env a →
    OutOk N h0 Γ w H n R (runC tt C n big c env H) → c.wp P R a w := by
  intro c
  induction c with
  | skip => intro env H Γ w a R m re h; exact wp_skip (h Γ w a (Ext.refl m) re)
  | label l => intro env H Γ w a R m re h; exact wp_label (h Γ w a (Ext.refl m) re)
  | exit id => intro env H Γ w a R m re h; exact wp_exit (h Γ w a (Ext.refl m) re)
  | ret => intro env H Γ w a R m re h; exact wp_ret (h Γ w a (Ext.refl m) re)
  | region id ops draw =>
    intro env H Γ w a R m re h
    have h : OutOk N h0 Γ w H n R (ifB draw (drawV tt C n ops.toList env H) (opsV tt C n ops.toList ops.toList env H)) := h
    have hops : (⟨ops.toList⟩ : Array Oper) = ops := by cases ops; rfl
    cases draw with
    | true =>
      rw [ifB_true] at h
      cases he : drawV tt C n ops.toList env H with
      | nrm env' H' =>
        rw [he] at h
        have := drawn_sound (id := id) (Q := R) hT hC hm he m re h
        rwa [show ops.toList.toArray = ops by simp] at this
      | bad => rw [he] at h; exact h.elim
      | ext _ _ _ =>
        exfalso
        unfold drawV at he
        rw [ifB_eq] at he
        split at he
        · replace he := onOpt_eq he
          rcases he with ⟨_, he⟩ | ⟨p, _, he⟩
          · simp at he
          · split at he
            · rw [ifB_eq] at he
              split at he
              · replace he := onOpt_eq he
                rcases he with ⟨_, he⟩ | ⟨_, _, he⟩ <;> simp at he
              · simp at he
            · simp at he
        · simp at he
      | ret _ _ =>
        exfalso
        unfold drawV at he
        rw [ifB_eq] at he
        split at he
        · replace he := onOpt_eq he
          rcases he with ⟨_, he⟩ | ⟨p, _, he⟩
          · simp at he
          · split at he
            · rw [ifB_eq] at he
              split at he
              · replace he := onOpt_eq he
                rcases he with ⟨_, he⟩ | ⟨_, _, he⟩ <;> simp at he
              · simp at he
            · simp at he
        · simp at he
    | false =>
      rw [ifB_false] at h
      rcases opsV_nrm (tt := tt) (C := C) (n := n) (ops := ops.toList) (rest := ops.toList) (env := env) (H := H) with ⟨env', H', he⟩ | he
      · rw [he] at h
        have := region_sound (id := id) (Q := R) hT hC he m re h
        rwa [show ops.toList.toArray = ops by simp] at this
      · rw [he] at h; exact h.elim
  | seq x y ihx ihy =>
    intro env H Γ w a R m re h
    have h : OutOk N h0 Γ w H n R (match runC tt C n big x env H with | .nrm env H => runC tt C n big y env H | .ext id env H => .ext id env H | .ret env H => .ret env H | .bad => .bad) := h
    refine wp_seq (ihx env H Γ w a _ m re ?_)
    cases he : runC tt C n big x env H with
    | nrm env' H' =>
      rw [he] at h
      exact fun Γ' w' a' hx hr => ihy env' H' Γ' w' a' R hx.mem hr (h.ext hx)
    | ext id env' H' => rw [he] at h; exact h
    | ret env' H' => rw [he] at h; exact h
    | bad => rw [he] at h; exact h
  | cond c x y ihx ihy =>
    intro env H Γ w a R m re h
    have h : OutOk N h0 Γ w H n R (onOpt (ev env c) .bad fun v => match v with | .bool t => ifB t (runC tt C n big x env H) (runC tt C n big y env H) | _ => .bad) := h
    cases hv : ev env c with
    | none => rw [hv, onOpt_none] at h; exact h.elim
    | some v =>
      rw [hv, onOpt_some] at h
      split at h
      · rename_i t
        refine wp_cond (rep_bool (re.ev hv)) ?_
        cases t with
        | true => exact ihx env H Γ w a R m re h
        | false => exact ihy env H Γ w a R m re h
      · exact h.elim
  | block id b ih =>
    intro env H Γ w a R m re h
    have h : OutOk N h0 Γ w H n R (match runC tt C n big b env H with | .nrm env H => .nrm env H | .ext j env H => ifB (Nat.beq j id) (.nrm env H) (.ext j env H) | .ret env H => .ret env H | .bad => .bad) := h
    refine wp_block (ih env H Γ w a _ m re ?_)
    cases he : runC tt C n big b env H with
    | nrm env' H' => rw [he] at h; exact h
    | ret env' H' => rw [he] at h; exact h
    | bad => rw [he] at h; exact h
    | ext j env' H' =>
      rw [he] at h
      simp only at h
      rw [ifB_eq] at h
      intro Γ' w' a' hx hr
      simp only [Exit.inBlock]
      split at h
      · rename_i hj
        rw [if_pos (Nat.eq_of_beq_eq_true hj)]
        exact h Γ' w' a' hx hr
      · rename_i hj
        rw [if_neg (fun e => hj (by rw [e]; simp))]
        exact h Γ' w' a' hx hr
  | loop b ih =>
    intro env H Γ w a R m re h
    have h : OutOk N h0 Γ w H n R (loopF (runC tt C n big b) big env H) := h
    have key : ∀ (k : Nat) (env1 : T RV) (H1 : HT) (Γ1 : Gm) (w1 : World) (a1 : Act), OutOk N h0 Γ w H n R (loopF (runC tt C n big b) k env1 H1) → Ext N h0 Γ w H Γ1 w1 H1 → EnvOk Γ1 n env1 a1 → Code.rounds P b R k a1 w1 := by
      intro k
      induction k with
      | zero => intro env1 H1 Γ1 w1 a1 h; exact h.elim
      | succ k ihk =>
        intro env1 H1 Γ1 w1 a1 h hx hr
        have h : OutOk N h0 Γ w H n R (match runC tt C n big b env1 H1 with | .nrm env H => loopF (runC tt C n big b) k env H | .ext id env H => .ext id env H | .ret env H => .ret env H | .bad => .bad) := h
        refine ih env1 H1 Γ1 w1 a1 _ hx.mem hr ?_
        cases he : runC tt C n big b env1 H1 with
        | nrm env' H' =>
          rw [he] at h
          exact fun Γ' w' a' hx' hr' => ihk env' H' Γ' w' a' h (hx.trans hx') hr'
        | ext id env' H' => rw [he] at h; exact fun Γ' w' a' hx' hr' => h Γ' w' a' (hx.trans hx') hr'
        | ret env' H' => rw [he] at h; exact fun Γ' w' a' hx' hr' => h Γ' w' a' (hx.trans hx') hr'
        | bad => rw [he] at h; exact h
    exact wp_loop_rounds big (key big env H Γ w a h (Ext.refl m) re)
  | rangeFunc => intro env H Γ w a R m re h; exact h.elim
  | scope => intro env H Γ w a R m re h; exact h.elim
  | goto => intro env H Γ w a R m re h; exact h.elim
  | refuse => intro env H Γ w a R m re h; exact h.elim

/-! ### Results -/
theorem resVs_run (hT : TtOk P tt) (m : Mem N h0 Γ w.heap H) (re : EnvOk Γ n env a) : ∀ {rs : List ResultVar} {vs : List RV}, resVs tt env H rs = some vs →
    ∃ xs : List Value, (rs.mapM (fun r => match r with | .tmp t => pure (a.tmps.getD t undef) | .cell b t => do loadVar t (← asAddr (a.tmps.getD b undef))) : Sem (List Value)).run P w = .ok xs w ∧ Reps Γ vs xs
  | [], vs, e => by simp [resVs] at e; subst e; exact ⟨[], by simp, Reps.nil⟩
  | .tmp t :: rs, vs, e => by
    simp only [resVs] at e
    replace e := onOpt_some_of e; obtain ⟨v, h1, e⟩ := e
    replace e := onOpt_some_of e; obtain ⟨vs', h2, e⟩ := e
    simp at e; subst e
    obtain ⟨xs, h3, h4⟩ := resVs_run hT m re h2
    refine ⟨a.tmps.getD t undef :: xs, ?_, Reps.cons (by have := re.ev (x := .tmp t) h1; simpa [Act.eval] using this) h4⟩
    simp only [List.mapM_cons, Sem.run_bind, Sem.run_pure, Result.andThen_ok]
    rw [h3]; rfl
  | .cell t ty :: rs, vs, e => by
    simp only [resVs] at e
    replace e := onOpt_some_of e; obtain ⟨u, h1, e⟩ := e
    replace e := tyK_some e; obtain ⟨ti, hti, e⟩ := e
    replace e := onOpt_some_of e; obtain ⟨v, h5, e⟩ := e
    replace e := onOpt_some_of e; obtain ⟨vs', h2, e⟩ := e
    simp at e; subst e
    obtain ⟨xs, h3, h4⟩ := resVs_run hT m re h2
    have hu : Rep Γ u (a.tmps.getD t undef) := by have := re.ev (x := .tmp t) h1; simpa [Act.eval] using this
    obtain ⟨tok, rfl⟩ := hT _ _ hti
    obtain ⟨y, hy, ry⟩ := loadV_run (P := P) m tok hu h5
    refine ⟨y :: xs, ?_, Reps.cons ry h4⟩
    have hload : (do loadVar ti.t (← asAddr (a.tmps.getD t undef)) : Sem Value).run P w = .ok y w := by
      unfold loadV at h5
      split at h5
      · obtain ⟨p, _, he⟩ := rep_ptr hu
        rw [he] at hy ⊢
        simpa [Instr.loadAt, Instr.sureAddr, asAddr] using hy
      · simp at h5
    simp only [List.mapM_cons, Sem.run_bind]
    simp only [Sem.run_bind] at hload
    rw [hload]
    simp only [Result.andThen_ok]
    rw [h3]; rfl

theorem resV_run (hT : TtOk P tt) {fn : Func} {v : RV} (m : Mem N h0 Γ w.heap H) (re : EnvOk Γ n env a) (e : resV tt fn.results.toList env H = .ok v H') :
    H' = H ∧ ∃ x, (results fn a.tmps).run P w = .ok x w ∧ Rep Γ v x := by
  unfold resV at e
  replace e := onOpt_ok e; obtain ⟨vs, hv, e⟩ := e
  obtain ⟨xs, h1, h2⟩ := resVs_run hT m re hv
  have hrun : (results fn a.tmps).run P w = .ok (if h : (⟨xs⟩ : Array Value).size = 1 then (⟨xs⟩ : Array Value)[0] else .tuple ⟨xs⟩) w := by
    unfold results
    rw [Array.mapM_eq_mapM_toList]
    simp only [Sem.run_bind, Sem.run_map]
    exact (congrArg (fun r : Result (List Value) => (r.andThen fun a w' => Result.ok a.toArray w').andThen fun a w' => Sem.run P (pure (if h : a.size = 1 then a[0] else Value.tuple a)) w') h1).trans (by simp)
  split at e
  · rename_i u
    simp at e
    obtain ⟨rfl, rfl⟩ := e
    obtain ⟨x, xs', rfl, rx, r'⟩ := h2.inv_cons
    obtain rfl := r'.inv_nil
    exact ⟨rfl, x, by rw [hrun]; rfl, rx⟩
  · rename_i hne
    simp at e
    obtain ⟨rfl, rfl⟩ := e
    refine ⟨rfl, .tuple ⟨xs⟩, ?_, .tup _ _ h2.1 h2.2⟩
    rw [hrun, dif_neg]
    intro h1
    have : vs.length = 1 := by rw [← h2.1]; exact h1
    match vs, this, hne with
    | [v], _, hne => exact hne v rfl

/-! ### Functions -/
def FeOk (P : Program) (f : FuncId) : FE → Prop
  | .code n res c => ∃ fn, P.funcs[f]? = some fn ∧ fn.body = some c ∧ fn.ntmps = n ∧ fn.results.toList = res ∧ (fn.name == "runtime.NumGoroutine") = false
  | .same => ∀ (x : Value) (w : World), ∃ w', (callFunc f ⟨[x]⟩).run P w = .ok (.value x) w' ∧ w' = w
  | .known b => ∀ H, CallR P f [] H (.bool b) H
  | .pure g => ∀ (Γ : Gm) (args : List RV) (xs : List Value) (v : RV) (w : World), g args = some v → Reps Γ args xs → ∃ x, (callFunc f ⟨xs⟩).run P w = .ok (.value x) w ∧ Rep Γ v x
  | .room e => ∀ args H v H', roomV e args H = .ok v H' → CallR P f args H v H'
def FtOk (P : Program) (ft : T FE) : Prop := ∀ f fe, ft.get f = some fe → FeOk P f fe

theorem envOk_entry {args : List RV} {xs : List Value} (r : Reps Γ args xs) {n : Nat} (hn : args.length ≤ n) {env : T RV} (hg : ∀ j, env.get j = if 0 ≤ j ∧ j < 0 + args.length then args[j - 0]? else (T.e : T RV).get j) :
    EnvOk Γ n env { tmps := (⟨xs⟩ : Array Value) ++ Array.replicate (n - (⟨xs⟩ : Array Value).size) Go.undef, defers := [] } := by
  have hl : (⟨xs⟩ : Array Value).size = args.length := r.1
  refine ⟨rfl, by simp; have := r.1; omega, fun i v hv => ?_⟩
  rw [hg] at hv
  split at hv
  · rename_i hi
    have hv : args[i]? = some v := hv
    obtain ⟨x, h1, h2⟩ := r.get hv
    refine ⟨x, ?_, h2⟩
    rw [Array.getElem?_append, hl, if_pos (by omega)]
    simpa using h1
  · simp [T.get_e] at hv

theorem funF_sound (hT : TtOk P tt) (hm : P.follows .mixedOrders = true) {ft : T FE} (hF : FtOk P ft) : ∀ d, SoundR P (funF tt ft big d)
  | 0 => fun f args H v H' e => by
    have e : OR.bad = .ok v H' := e
    simp at e
  | d + 1 => fun f args H v H' e => by
    have hC := funF_sound hT hm hF d
    have e : (onOpt (ft.get f) .bad fun fe => match fe with
      | .code n res c => forceN (lenL args) fun k => ifB (Nat.ble k n) (setsK args .e 0 fun env => match runC tt (funF tt ft big d) n big c env H with
          | .nrm env H => resV tt res env H
          | .ret env H => resV tt res env H
          | _ => .bad) .bad
      | .same => sameV args H
      | .known b => knownV b args H
      | .pure g => okV (g args) H
      | .room e => roomV e args H) = .ok v H' := e
    replace e := onOpt_ok e; obtain ⟨fe, hfe, e⟩ := e
    have hok := hF f fe hfe
    intro N h0 Γ w xs m ra
    cases fe with
    | code n res c =>
      obtain ⟨fn, h1, h2, h3, h4, h5⟩ := hok
      simp only at e
      rw [forceN_eq, lenL_eq] at e
      replace e := ifB_ok e; obtain ⟨hn, e⟩ := e
      have hn := Nat.le_of_ble_eq_true hn
      obtain ⟨env, h6, h7⟩ := setsK_spec args .e 0 (fun env => match runC tt (funF tt ft big d) n big c env H with
          | .nrm env H => resV tt res env H
          | .ret env H => resV tt res env H
          | _ => .bad)
      rw [h6] at e
      have h8 : fn.name ≠ "runtime.NumGoroutine" := by simpa using h5
      have hcall : (callFunc f ⟨xs⟩).run P w = .ok (.enter f ⟨xs⟩) w := by simp [callFunc, h1, h2, h8]
      rw [hcall]
      simp only
      have hre := envOk_entry ra hn h7
      refine calls_of_wp h1 h2 (runC_sound (N := N) (h0 := h0) (n := n) (big := big) hT hC hm c env H Γ w _ _ m (by rw [h3]; exact hre) ?_)
      have fin : ∀ (env' : T RV) (H1 : HT), resV tt res env' H1 = .ok v H' → ∀ Γ' w' a', Ext N h0 Γ w H Γ' w' H1 → EnvOk Γ' n env' a' →
          a'.defers = [] ∧ ∃ v', (results fn a'.tmps).run P w' = .ok v' w' ∧ ∃ x' Γ'', Ending.returned v' = .returned x' ∧ Ext N h0 Γ w H Γ'' w' H' ∧ Rep Γ'' v x' := by
        intro env' H1 he Γ' w' a' hx hr
        rw [← h4] at he
        obtain ⟨rfl, x, hx1, hx2⟩ := resV_run hT hx.mem hr he
        exact ⟨hr.1, x, hx1, x, Γ', rfl, hx, hx2⟩
      split at e
      · rename_i env' H1 he
        rw [he]
        exact fun Γ' w' a' hx hr => fin env' H1 e Γ' w' a' hx hr
      · rename_i env' H1 he
        rw [he]
        exact fun Γ' w' a' hx hr => fin env' H1 e Γ' w' a' hx hr
      · simp at e
    | same =>
      simp only [sameV] at e
      split at e
      · rename_i x
        simp at e
        obtain ⟨rfl, rfl⟩ := e
        obtain ⟨y, ys, rfl, ry, r'⟩ := ra.inv_cons
        obtain rfl := r'.inv_nil
        obtain ⟨w', h1, rfl⟩ := hok y w
        rw [h1]
        exact ⟨Γ, Ext.refl m, ry⟩
      · simp at e
    | known b =>
      simp only [knownV] at e
      split at e
      · simp at e
        obtain ⟨rfl, rfl⟩ := e
        exact hok H N h0 Γ w xs m ra
      · simp at e
    | pure g =>
      obtain ⟨h1, rfl⟩ := okV_ok e
      obtain ⟨x, h2, h3⟩ := hok Γ args xs v w h1 ra
      rw [h2]
      exact ⟨Γ, Ext.refl m, h3⟩
    | room e0 => exact hok args H v H' e N h0 Γ w xs m ra

/-- Where nothing was known of the memory, all that was known stands. -/
theorem Mem.frame {h h' : Heap} (m : Mem N h0 Γ h H) (hs : h.size ≤ h'.size) (same : ∀ b, b < h.size → h'[b]? = h[b]?) : Mem N h0 Γ h' H :=
  ⟨Nat.le_trans m.size hs, fun b hb => (same b (Nat.lt_of_lt_of_le hb m.size)).trans (m.old b hb), m.lt, fun l p hp => Nat.lt_of_lt_of_le (m.blk l p hp) hs,
    fun l p o hp ho => (m.obj l p o hp ho).mono (Gle.refl Γ) (same _ (m.blk l p hp)), m.own, m.excl⟩
theorem mem_none0 (h : Heap) : Mem h.size h (fun _ => none) h ⟨0, .e⟩ :=
  ⟨Nat.le_refl _, fun _ _ => rfl, fun _ _ h => by simp at h, fun _ _ h => by simp at h, fun _ _ _ h => by simp at h, fun _ _ _ h => by simp at h, fun _ _ _ _ _ h => by simp at h⟩
theorem known_of {P : Program} {f : FuncId} {b : Bool} {H1 : HT} (h : CallR P f [] ⟨0, .e⟩ (.bool b) H1) : ∀ H, CallR P f [] H (.bool b) H := by
  intro H N h0 Γ w xs m ra
  have h := h w.heap.size w.heap (fun _ => none) w xs (mem_none0 _) ⟨ra.1, fun i c x h1 _ => by simp at h1⟩
  have back : ∀ {Γ' : Gm} {w' : World} {x : Value}, Ext w.heap.size w.heap (fun _ => none) w ⟨0, .e⟩ Γ' w' H1 → Rep Γ' (.bool b) x → Ext N h0 Γ w H Γ w' H ∧ Rep Γ (.bool b) x := by
    intro Γ' w' x hx hr
    cases hr
    exact ⟨⟨Gle.refl _, m.frame hx.kept.size hx.mem.old, Nat.le_refl _, fun _ _ h => h, hx.kept⟩, .bool b⟩
  split at h
  · exact h.mono fun e w' ⟨x, Γ', he, hx, hr⟩ => ⟨x, Γ, he, (back hx hr).1, (back hx hr).2⟩
  · obtain ⟨Γ', hx, hr⟩ := h
    exact ⟨Γ, (back hx hr).1, (back hx hr).2⟩
  · exact h
end

/-! ### Tables -/
noncomputable def ofListK {α : Type} (l : List (Nat × α)) (t : T α) : T α :=
  @List.rec (Nat × α) (fun _ => T α → T α) (fun t => t) (fun p _ ih t => T.setK t p.1 p.2 ih) l t
theorem ofListK_get {α : Type} : ∀ {l : List (Nat × α)} {t : T α} {f : Nat} {x : α}, (ofListK l t).get f = some x → (f, x) ∈ l ∨ t.get f = some x
  | [], t, f, x, h => .inr h
  | p :: l, t, f, x, h => by
    obtain ⟨t', h1, h2⟩ := T.setK_spec t p.1 p.2 (ofListK l)
    have h : (T.setK t p.1 p.2 (ofListK l)).get f = some x := h
    rw [h1] at h
    rcases ofListK_get h with h3 | h3
    · exact .inl (List.mem_cons_of_mem _ h3)
    · rw [h2] at h3
      split at h3
      · rename_i he
        simp at h3
        left
        rw [he, ← h3]; exact List.mem_cons_self
      · exact .inr h3
noncomputable def ofList {α : Type} (l : List (Nat × α)) : T α := ofListK l .e
theorem ofList_get {α : Type} {l : List (Nat × α)} {f : Nat} {x : α} (h : (ofList l).get f = some x) : (f, x) ∈ l := by
  rcases ofListK_get h with h | h
  · exact h
  · simp [T.get_e] at h

end Go.Rx

/- Closed runs: types that can be compared. -/
namespace Go.Rx

section
variable (P : Program)
mutual
/-- The cells of such a type, as they are compared. -/
def eqShape : Nat → TypeId → Option (List Lf)
  | 0, _ => none
  | d + 1, t =>
    match P.underlying t with
    | some .bool => some [.b]
    | some (.int _) => some [.i]
    | some .string => some [.s]
    | some (.pointer e) => match szT P e with
      | some (_ + 1) => some [.p]
      | _ => none
    | some (.slice _) => some [.sl]
    | some (.map _ _) => some [.m]
    | some (.func _ _ _) => some [.f]
    | some (.struct fs) => if P.stoodInHeld t then none else fsShape d fs.toList 0
    | _ => none
def fsShape : Nat → List Field → Nat → Option (List Lf)
  | _, [], _ => some []
  | 0, _ :: _, _ => none
  | d + 1, f :: fs, off =>
    if f.name = "_" then none else if f.offset = off then
      match eqShape d f.type, fsShape d fs (off + (szT P f.type).getD 0), szT P f.type with
      | some a, some b, some n => if a.length = n then some (a ++ b) else none
      | _, _, _ => none
    else none
end
end

theorem eqL_len : ∀ {ls : List Lf} {xs ys : List RV} {r : Bool}, eqL ls xs ys = some r → xs.length = ls.length ∧ ys.length = ls.length
  | [], xs, ys, r, e => by cases xs <;> cases ys <;> simp [eqL] at e; simp
  | l :: ls, [], ys, r, e => by simp [eqL] at e
  | l :: ls, x :: xs, [], r, e => by simp [eqL] at e
  | l :: ls, x :: xs, y :: ys, r, e => by
    simp only [eqL] at e
    replace e := onOpt_some_of e; obtain ⟨b, _, e⟩ := e
    cases b with
    | true => have := eqL_len e; simp [this.1, this.2]
    | false =>
      rw [ifB_false] at e
      replace e := onOpt_some_of e; obtain ⟨q, h, _⟩ := e
      have := eqL_len h; simp [this.1, this.2]

theorem eqL_app : ∀ {la lb : List Lf} {xs ys : List RV} {r : Bool}, eqL (la ++ lb) xs ys = some r → ∃ p q, eqL la (xs.take la.length) (ys.take la.length) = some p ∧ eqL lb (xs.drop la.length) (ys.drop la.length) = some q ∧ r = (p && q)
  | [], lb, xs, ys, r, e => ⟨true, r, by simp [eqL], by simpa using e, by simp⟩
  | l :: la, lb, [], ys, r, e => by simp [eqL] at e
  | l :: la, lb, x :: xs, [], r, e => by simp [eqL] at e
  | l :: la, lb, x :: xs, y :: ys, r, e => by
    simp only [List.cons_append, eqL] at e
    replace e := onOpt_some_of e; obtain ⟨b, hb, e⟩ := e
    cases b with
    | true =>
      rw [ifB_true] at e
      obtain ⟨p, q, h1, h2, h3⟩ := eqL_app e
      refine ⟨p, q, ?_, by simpa using h2, h3⟩
      simp only [List.length_cons, List.take_succ_cons, eqL, hb, onOpt_some, ifB_true]
      exact h1
    | false =>
      rw [ifB_false] at e
      replace e := onOpt_some_of e; obtain ⟨c, hc, e⟩ := e
      simp at e; subst e
      obtain ⟨p, q, h1, h2, h3⟩ := eqL_app hc
      refine ⟨false, q, ?_, by simpa using h2, by simp⟩
      simp only [List.length_cons, List.take_succ_cons, eqL, hb, onOpt_some, ifB_false, h1]

/-- A value and the type's form: of one cell, or of cells. -/
def Fits (P : Program) (t : TypeId) (v : RV) (x : Value) : Prop :=
  (aggT P t = some false → x.oneCell' = true) ∧ (aggT P t = some true → ∃ xs, v = .agg xs)

section
variable {P : Program} {Γ : Gm}

theorem one_cells {v : RV} {x : Value} (r : Rep Γ v x) (h : x.oneCell' = true) : isAg v = false := by
  cases r <;> simp [Value.oneCell'] at h <;> rfl

theorem sameAddr_self (w : World) (b o o' : Nat) : (sameAddr ⟨b, o, none⟩ ⟨b, o', none⟩).run P w = .ok (Nat.beq o o') w := by
  unfold sameAddr
  have : ((⟨b, o, none⟩ : Addr) == ⟨b, o', none⟩) = Nat.beq o o' := by
    rw [Bool.eq_iff_iff, nbeq]; simp
  simp [this]

/-- A part of a struct. -/
theorem part_run {t : TypeId} {n : Nat} (w : World) (hs : szT P t = some n) {a : Bool} (ha : aggT P t = some a) (hone : a = false → n = 1) {cs : List RV} {xs : List Value} (hr : Reps Γ cs xs) (ho : ∀ x ∈ xs, x.oneCell' = true) {off : Nat} (hle : off + n ≤ cs.length) :
    ∃ v x, (part t ⟨xs⟩ off).run P w = .ok x w ∧ Rep Γ v x ∧ v.cells = (cs.drop off).take n ∧ Fits P t v x := by
  have h1 := aggT_run (P := P) w ha
  have h2 := szT_run (P := P) w hs
  cases a with
  | true =>
    refine ⟨.agg ((cs.drop off).take n), .agg ⟨(xs.drop off).take n⟩, by simp [part, h1, h2], .agg _ _ (by simp [hr.1]) (fun x hx => ho x (List.mem_of_mem_drop (List.mem_of_mem_take hx))) ((hr.drop off).take n).2, rfl, fun h => by rw [ha] at h; simp at h, fun _ => ⟨_, rfl⟩⟩
  | false =>
    obtain rfl := hone rfl
    have hlt : off < cs.length := by omega
    obtain ⟨x, hx, rx⟩ := hr.get (List.getElem?_eq_getElem hlt)
    have hox := ho x (List.mem_of_getElem? hx)
    refine ⟨cs[off], x, by simp [part, h1, hx], rx, ?_, fun _ => hox, fun h => by rw [ha] at h; simp at h⟩
    rw [cells_one (one_cells rx hox)]
    rw [List.drop_eq_getElem_cons hlt]; rfl

theorem shape_inv {t : TypeId} {d : Nat} {ls : List Lf} (h : eqShape P (d + 1) t = some ls) :
    (P.underlying t = some .bool ∧ ls = [.b]) ∨ (∃ k, P.underlying t = some (.int k) ∧ ls = [.i]) ∨ (P.underlying t = some .string ∧ ls = [.s]) ∨ (∃ e n, P.underlying t = some (.pointer e) ∧ szT P e = some (n + 1) ∧ ls = [.p]) ∨
    (∃ e, P.underlying t = some (.slice e) ∧ ls = [.sl]) ∨ (∃ k e, P.underlying t = some (.map k e) ∧ ls = [.m]) ∨ (∃ a b c, P.underlying t = some (.func a b c) ∧ ls = [.f]) ∨
    (∃ fs, P.underlying t = some (.struct fs) ∧ P.stoodInHeld t = false ∧ fsShape P d fs.toList 0 = some ls) := by
  rw [eqShape] at h
  split at h
  · rename_i hu; simp at h; exact .inl ⟨hu, h.symm⟩
  · rename_i k hu; simp at h; exact .inr (.inl ⟨k, hu, h.symm⟩)
  · rename_i hu; simp at h; exact .inr (.inr (.inl ⟨hu, h.symm⟩))
  · rename_i e hu
    split at h
    · rename_i n hn; simp at h; exact .inr (.inr (.inr (.inl ⟨e, n, hu, hn, h.symm⟩)))
    · simp at h
  · rename_i e hu; simp at h; exact .inr (.inr (.inr (.inr (.inl ⟨e, hu, h.symm⟩))))
  · rename_i k e hu; simp at h; exact .inr (.inr (.inr (.inr (.inr (.inl ⟨k, e, hu, h.symm⟩)))))
  · rename_i a b c hu; simp at h; exact .inr (.inr (.inr (.inr (.inr (.inr (.inl ⟨a, b, c, hu, h.symm⟩))))))
  · rename_i fs hu
    split at h
    · simp at h
    · rename_i hs; exact .inr (.inr (.inr (.inr (.inr (.inr (.inr ⟨fs, hu, by simpa using hs, h⟩))))))
  · simp at h

theorem aggT_shape {t : TypeId} {d : Nat} {ls : List Lf} (h : eqShape P d t = some ls) : ∃ a, aggT P t = some a ∧ (a = false → ls.length = 1) := by
  cases d with
  | zero => simp [eqShape] at h
  | succ d =>
    unfold aggT
    rcases shape_inv h with ⟨hu, rfl⟩ | ⟨k, hu, rfl⟩ | ⟨hu, rfl⟩ | ⟨e, n, hu, _, rfl⟩ | ⟨e, hu, rfl⟩ | ⟨k, e, hu, rfl⟩ | ⟨a, b, c, hu, rfl⟩ | ⟨fs, hu, _, _⟩ <;> rw [hu]
    all_goals first | exact ⟨false, rfl, fun _ => rfl⟩ | exact ⟨true, rfl, fun h => by simp at h⟩

theorem eqC_run {t : TypeId} {d : Nat} {l : Lf} {w : World} {x y : RV} {a b : Value} {r : Bool} (h : eqShape P (d + 1) t = some [l]) (hna : aggT P t = some false) (e : eqC l x y = some r) (ra : Rep Γ x a) (rb : Rep Γ y b) (D : Nat) : (Op.equalIn (D + 1) t a b).run P w = .ok r w := by
  have hns : ∀ fs, P.underlying t ≠ some (.struct fs) := fun fs hu => by unfold aggT at hna; rw [hu] at hna; simp at hna
  have inv := shape_inv h
  unfold eqC at e
  split at e
  · rename_i p q
    have hu : P.underlying t = some .bool := by
      rcases inv with ⟨hu, _⟩ | ⟨_, _, h⟩ | ⟨_, h⟩ | ⟨_, _, _, _, h⟩ | ⟨_, _, h⟩ | ⟨_, _, _, h⟩ | ⟨_, _, _, _, h⟩ | ⟨_, h, _⟩ <;> first | exact hu | (simp at h; done) | exact absurd h (hns _)
    obtain rfl := rep_bool ra; obtain rfl := rep_bool rb
    rw [run_equalIn_bool' w D t _ _ hu]
    simp at e; subst e
    cases p <;> cases q <;> rfl
  · rename_i k p k' q
    have hu : ∃ k, P.underlying t = some (.int k) := by
      rcases inv with ⟨_, h⟩ | ⟨k, hu, _⟩ | ⟨_, h⟩ | ⟨_, _, _, _, h⟩ | ⟨_, _, h⟩ | ⟨_, _, _, h⟩ | ⟨_, _, _, _, h⟩ | ⟨_, h, _⟩ <;> first | exact ⟨k, hu⟩ | (simp at h; done) | exact absurd h (hns _)
    obtain ⟨kk, hu⟩ := hu
    obtain rfl := rep_int ra; obtain rfl := rep_int rb
    replace e := ifB_some e; obtain ⟨h1, e⟩ := e
    obtain rfl := kindEq_eq.1 h1
    simp only [Option.some.injEq] at e; subst e
    rw [run_equalIn_int w D t _ _ _ _ hu, eqI_eq]
    congr 1
  · rename_i s s'
    have hu : P.underlying t = some .string := by
      rcases inv with ⟨_, h⟩ | ⟨_, _, h⟩ | ⟨hu, _⟩ | ⟨_, _, _, _, h⟩ | ⟨_, _, h⟩ | ⟨_, _, _, h⟩ | ⟨_, _, _, _, h⟩ | ⟨_, h, _⟩ <;> first | exact hu | (simp at h; done) | exact absurd h (hns _)
    obtain ⟨rfl, h1⟩ := rep_str ra; obtain ⟨rfl, h2⟩ := rep_str rb
    simp at e; subst e
    rw [run_equalIn_string w D t _ _ hu, eqZ_eq, bytes_toList, bytes_toList]
    congr 1
    rw [Bool.eq_iff_iff, beq_iff_eq, decide_eq_true_iff]
    exact map_iff h1 h2
  all_goals first | (simp at e; done) | skip
  -- pointers
  case h_4 | h_5 | h_6 | h_7 =>
    have hu : ∃ e n, P.underlying t = some (.pointer e) ∧ szT P e = some (n + 1) := by
      rcases inv with ⟨_, h⟩ | ⟨_, _, h⟩ | ⟨_, h⟩ | ⟨e, n, hu, hn, _⟩ | ⟨_, _, h⟩ | ⟨_, _, _, h⟩ | ⟨_, _, _, _, h⟩ | ⟨_, h, _⟩ <;> first | exact ⟨e, n, hu, hn⟩ | (simp at h; done) | exact absurd h (hns _)
    obtain ⟨e0, n, hu, hn⟩ := hu
    have hs := szT_run (P := P) w hn
    first
    | (obtain rfl := rep_nilp ra; obtain rfl := rep_nilp rb; simp at e; subst e; simp [Op.equalIn, run_underlying hu]; done)
    | (obtain rfl := rep_nilp ra; obtain ⟨p, _, rfl⟩ := rep_ptr rb; simp at e; subst e; simp [Op.equalIn, run_underlying hu]; done)
    | (obtain ⟨p, _, rfl⟩ := rep_ptr ra; obtain rfl := rep_nilp rb; simp at e; subst e; simp [Op.equalIn, run_underlying hu]; done)
    | (obtain ⟨p, hp, rfl⟩ := rep_ptr ra; obtain ⟨p', hp', rfl⟩ := rep_ptr rb
       replace e := ifB_some e
       obtain ⟨h1, e⟩ := e
       obtain rfl := nbeq.1 h1
       rw [hp] at hp'; simp at hp'; subst hp'
       simp only [Option.some.injEq] at e; subst e
       have hq := fun o o' => sameAddr_self (P := P) w p.b (p.base + o) (p.base + o')
       have hb : ∀ o o', Nat.beq (p.base + o) (p.base + o') = Nat.beq o o' := fun o o' => by rw [Bool.eq_iff_iff, nbeq, nbeq]; omega
       simp only [hb] at hq
       simp [Op.equalIn, run_underlying hu, hs, hq])
  case h_8 | h_9 | h_10 =>
    have hu : ∃ e, P.underlying t = some (.slice e) := by
      rcases inv with ⟨_, h⟩ | ⟨_, _, h⟩ | ⟨_, h⟩ | ⟨_, _, _, _, h⟩ | ⟨e, hu, _⟩ | ⟨_, _, _, h⟩ | ⟨_, _, _, _, h⟩ | ⟨_, h, _⟩ <;> first | exact ⟨e, hu⟩ | (simp at h; done) | exact absurd h (hns _)
    obtain ⟨e0, hu⟩ := hu
    first
    | (obtain rfl := rep_slnil ra; obtain rfl := rep_slnil rb; simp at e; subst e; simp [Op.equalIn, run_underlying hu]; done)
    | (obtain rfl := rep_slnil ra; obtain ⟨_, _, _, _, _, _, _, rfl⟩ := rep_sl rb; simp at e; subst e; simp [Op.equalIn, run_underlying hu]; done)
    | (obtain rfl := rep_slnil rb; obtain ⟨_, _, _, _, _, _, _, rfl⟩ := rep_sl ra; simp at e; subst e; simp [Op.equalIn, run_underlying hu])
  case h_11 | h_12 | h_13 =>
    have hu : ∃ k e, P.underlying t = some (.map k e) := by
      rcases inv with ⟨_, h⟩ | ⟨_, _, h⟩ | ⟨_, h⟩ | ⟨_, _, _, _, h⟩ | ⟨_, _, h⟩ | ⟨k, e, hu, _⟩ | ⟨_, _, _, _, h⟩ | ⟨_, h, _⟩ <;> first | exact ⟨k, e, hu⟩ | (simp at h; done) | exact absurd h (hns _)
    obtain ⟨k0, e0, hu⟩ := hu
    first
    | (obtain rfl := rep_mapnil ra; obtain rfl := rep_mapnil rb; simp at e; subst e; simp [Op.equalIn, run_underlying hu]; done)
    | (obtain rfl := rep_mapnil ra; obtain ⟨_, _, rfl⟩ := rep_map rb; simp at e; subst e; simp [Op.equalIn, run_underlying hu]; done)
    | (obtain rfl := rep_mapnil rb; obtain ⟨_, _, rfl⟩ := rep_map ra; simp at e; subst e; simp [Op.equalIn, run_underlying hu])
  case h_14 | h_15 | h_16 =>
    have hu : ∃ a b c, P.underlying t = some (.func a b c) := by
      rcases inv with ⟨_, h⟩ | ⟨_, _, h⟩ | ⟨_, h⟩ | ⟨_, _, _, _, h⟩ | ⟨_, _, h⟩ | ⟨_, _, _, h⟩ | ⟨a, b, c, hu, _⟩ | ⟨_, h, _⟩ <;> first | exact ⟨a, b, c, hu⟩ | (simp at h; done) | exact absurd h (hns _)
    obtain ⟨a0, b0, c0, hu⟩ := hu
    first
    | (obtain rfl := rep_nilf ra; obtain rfl := rep_nilf rb; simp at e; subst e; simp [Op.equalIn, run_underlying hu]; done)
    | (obtain rfl := rep_nilf ra; obtain ⟨_, _, rfl⟩ := rep_func rb; simp at e; subst e; simp [Op.equalIn, run_underlying hu]; done)
    | (obtain rfl := rep_nilf rb; obtain ⟨_, _, rfl⟩ := rep_func ra; simp at e; subst e; simp [Op.equalIn, run_underlying hu])

/-! ### Structs -/
theorem fsShape_len (P : Program) : ∀ {d : Nat} {fs : List Field} {off : Nat} {ls : List Lf}, fsShape P d fs off = some ls → True := fun _ => trivial

mutual
theorem equal_run : ∀ (d : Nat) (t : TypeId) (ls : List Lf), eqShape P d t = some ls → ∀ (D : Nat), d ≤ D → ∀ (w : World) (x y : RV) (a b : Value) (r : Bool), eqL ls x.cells y.cells = some r → Rep Γ x a → Rep Γ y b → Fits P t x a → Fits P t y b →
    (Op.equalIn D t a b).run P w = .ok r w
  | 0, t, ls, h, _, _, _, _, _, _, _, _, _, _, _, _, _ => by simp [eqShape] at h
  | d + 1, t, ls, h, D, hD, w, x, y, a, b, r, e, ra, rb, fa, fb => by
    obtain ⟨D, rfl⟩ : ∃ D', D = D' + 1 := ⟨D - 1, by omega⟩
    obtain ⟨ag, hag, h1⟩ := aggT_shape h
    cases ag with
    | false =>
      have hla := h1 rfl
      have hx := one_cells ra (fa.1 hag)
      have hy := one_cells rb (fb.1 hag)
      rw [cells_one hx, cells_one hy] at e
      obtain ⟨l, rfl, hc⟩ := eqL_nil e
      exact eqC_run h hag hc ra rb D
    | true =>
      rcases shape_inv h with ⟨hu, _⟩ | ⟨_, hu, _⟩ | ⟨hu, _⟩ | ⟨_, _, hu, _⟩ | ⟨_, hu, _⟩ | ⟨_, _, hu, _⟩ | ⟨_, _, _, hu, _⟩ | ⟨fs, hu, hs, hf⟩
      all_goals first | (exfalso; unfold aggT at hag; rw [hu] at hag; simp at hag; done) | skip
      obtain ⟨xs, rfl⟩ := fa.2 hag
      obtain ⟨ys, rfl⟩ := fb.2 hag
      obtain ⟨as, ra', oa, rfl⟩ := rep_agg ra
      obtain ⟨bs, rb', ob, rfl⟩ := rep_agg rb
      have hfo : P.fieldsOf t = fs := by simp [Program.fieldsOf, hu]
      rw [run_equalIn_struct w D t _ _ (by rw [hfo]; exact hu) hs, hfo]
      exact fields_run d fs.toList 0 ls hf D (by omega) w xs ys as bs r (by rw [List.drop_zero, List.drop_zero]; exact e) ⟨Nat.zero_le _, Nat.zero_le _⟩ ra' rb' oa ob
theorem fields_run : ∀ (d : Nat) (fs : List Field) (off : Nat) (ls : List Lf), fsShape P d fs off = some ls → ∀ (D : Nat), d ≤ D → ∀ (w : World) (xs ys : List RV) (as bs : List Value) (r : Bool), eqL ls (xs.drop off) (ys.drop off) = some r → off ≤ xs.length ∧ off ≤ ys.length → Reps Γ xs as → Reps Γ ys bs →
    (∀ x ∈ as, x.oneCell' = true) → (∀ x ∈ bs, x.oneCell' = true) → (Op.eqFields D ⟨as⟩ ⟨bs⟩ fs).run P w = .ok r w
  | d, [], off, ls, h, D, hD, w, xs, ys, as, bs, r, e, hle, ra, rb, oa, ob => by
    have : ls = [] := by cases d <;> simp [fsShape] at h <;> first | exact h | exact h.symm
    subst this
    have : r = true := by
      cases hx : xs.drop off <;> cases hy : ys.drop off <;> rw [hx, hy] at e <;> simp [eqL] at e
      first | exact e | exact e.symm
    subst this
    simp [Op.eqFields]
  | 0, f :: fs, off, ls, h, _, _, _, _, _, _, _, _, _, _, _, _, _, _ => by simp [fsShape] at h
  | d + 1, f :: fs, off, ls, h, D, hD, w, xs, ys, as, bs, r, e, hle, ra, rb, oa, ob => by
    rw [fsShape] at h
    split at h
    · simp at h
    rename_i hname
    split at h
    · rename_i hoff
      split at h
      · rename_i la lb n h1 h2 h3
        split at h
        · rename_i hl
          simp at h; subst h
          obtain ⟨p, q, e1, e2, rfl⟩ := eqL_app e
          rw [List.drop_drop, List.drop_drop] at e2
          rw [h3] at h2
          simp only [Option.getD_some] at h2
          rw [hl] at e1 e2
          have hlx : off + n ≤ xs.length := by
            have := (eqL_len e).1
            simp [hl] at this; omega
          have hly : off + n ≤ ys.length := by
            have := (eqL_len e).2
            simp [hl] at this; omega
          obtain ⟨ag, hag, hone⟩ := aggT_shape h1
          obtain ⟨v1, x1, p1, p2, p3, p4⟩ := part_run (Γ := Γ) w h3 hag (fun h => by rw [← hl]; exact hone h) ra oa hlx
          obtain ⟨v2, x2, q1, q2, q3, q4⟩ := part_run (Γ := Γ) w h3 hag (fun h => by rw [← hl]; exact hone h) rb ob hly
          have h4 := equal_run d f.type la h1 D (by omega) w v1 v2 x1 x2 p (by rw [p3, q3]; exact e1) p2 q2 p4 q4
          rw [← hoff] at p1 q1
          simp only [Op.eqFields, ne_eq, hname, not_false_eq_true, if_true, Sem.run_bind, p1, q1, h4, Result.andThen_ok]
          cases p with
          | true =>
            have := fields_run d fs (off + n) lb h2 D (by omega) w xs ys as bs q e2 ⟨hlx, hly⟩ ra rb oa ob
            simpa using this
          | false => simp
        · simp at h
      · simp at h
    · simp at h
end


/-! ### Keys -/
mutual
theorem key_run : ∀ (d : Nat) (t : TypeId) (ls : List Lf), eqShape P d t = some ls → ∀ (D : Nat), d ≤ D → ∀ (em : Bool) (w : World) (v : RV) (x : Value), Rep Γ v x → Fits P t v x → (aggT P t = some true → v.cells.length = ls.length) → (Instr.checkKey em D t x).run P w = .ok () w
  | 0, t, ls, h, _, _, _, _, _, _, _, _, _ => by simp [eqShape] at h
  | d + 1, t, ls, h, D, hD, em, w, v, x, rv, fv, hlen => by
    obtain ⟨D, rfl⟩ : ∃ D', D = D' + 1 := ⟨D - 1, by omega⟩
    rcases shape_inv h with ⟨hu, _⟩ | ⟨_, hu, _⟩ | ⟨hu, _⟩ | ⟨_, _, hu, _⟩ | ⟨_, hu, _⟩ | ⟨_, _, hu, _⟩ | ⟨_, _, _, hu, _⟩ | ⟨fs, hu, hs, hf⟩
    all_goals first | (simp [Instr.checkKey, run_underlying hu]; done) | skip
    have hag : aggT P t = some true := by unfold aggT; rw [hu]
    obtain ⟨xs, rfl⟩ := fv.2 hag
    obtain ⟨as, ra', oa, rfl⟩ := rep_agg rv
    have hk := keys_run d fs.toList 0 ls hf D (by omega) em w xs as (by have := hlen hag; simpa [RV.cells] using this) ra' oa
    simp only [Instr.checkKey, Sem.run_bind, run_underlying hu, Result.andThen_ok]
    rw [← Array.forIn_toList]
    rw [hk]; rfl
theorem keys_run : ∀ (d : Nat) (fs : List Field) (off : Nat) (ls : List Lf), fsShape P d fs off = some ls → ∀ (D : Nat), d ≤ D → ∀ (em : Bool) (w : World) (xs : List RV) (as : List Value), xs.length = off + ls.length → Reps Γ xs as → (∀ x ∈ as, x.oneCell' = true) →
    (forIn fs PUnit.unit fun f _ => (if f.name ≠ "_" then (do let x ← part f.type ⟨as⟩ f.offset; Instr.checkKey em D f.type x; pure (ForInStep.yield PUnit.unit)) else pure (ForInStep.yield PUnit.unit) : Sem (ForInStep PUnit))).run P w = .ok PUnit.unit w
  | d, [], off, ls, h, D, hD, em, w, xs, as, hle, ra, oa => by simp
  | 0, f :: fs, off, ls, h, _, _, _, _, _, _, _, _, _ => by simp [fsShape] at h
  | d + 1, f :: fs, off, ls, h, D, hD, em, w, xs, as, hle, ra, oa => by
    rw [fsShape] at h
    split at h
    · simp at h
    rename_i hname
    split at h
    · rename_i hoff
      split at h
      · rename_i la lb n h1 h2 h3
        split at h
        · rename_i hl
          simp at h; subst h
          rw [h3] at h2
          simp only [Option.getD_some] at h2
          have hlx : off + n ≤ xs.length := by simp at hle; omega
          obtain ⟨ag, hag, hone⟩ := aggT_shape h1
          obtain ⟨v1, x1, p1, p2, p3, p4⟩ := part_run (Γ := Γ) w h3 hag (fun h => by rw [← hl]; exact hone h) ra oa hlx
          have h4 := key_run d f.type la h1 D (by omega) em w v1 x1 p2 p4 (fun _ => by rw [p3]; simp; omega)
          have h5 := keys_run d fs (off + n) lb h2 D (by omega) em w xs as (by simp at hle; omega) ra oa
          rw [← hoff] at p1
          rw [List.forIn_cons]
          simp only [Sem.run_bind, ne_eq, hname, not_false_eq_true, if_true, p1, h4, Result.andThen_ok, Sem.run_pure]
          exact h5
        · simp at h
      · simp at h
    · simp at h
end

theorem EqOk.of {t : TypeId} {d : Nat} {ls : List Lf} (h : eqShape P d t = some ls) (hg : P.eqGuardType P.depth t = false) : EqOk P d t ls :=
  ⟨hg, fun D hD Γ w x y a b r e ra rb h1 h2 => equal_run d t ls h D hD w x y a b r e ra rb ⟨fun ha => (h1 ha).1, fun ha => (h2 ha).1⟩ ⟨fun ha => (h1 ha).2, fun ha => (h2 ha).2⟩⟩
theorem KeyOk.of {t : TypeId} {d : Nat} {ls : List Lf} {ag : Bool} {sz : Nat} (h : eqShape P d t = some ls) (ha : aggT P t = some ag) (hs : sz = ls.length) : KeyOk P d t ag sz :=
  fun D hD em Γ w v x rv hok hag hna => by
    refine key_run d t ls h D hD em w v x rv ⟨fun h0 => ?_, fun h0 => ?_⟩ (fun h0 => ?_)
    · rw [ha] at h0; simp at h0; exact rep_oneCell rv (hna h0) hok
    · rw [ha] at h0; simp at h0; exact (hag h0).1
    · rw [ha] at h0; simp at h0; rw [(hag h0).2, hs]

/-! ### Rows of types -/
theorem RTOk.n {t : TypeId} {d : RTD} {sz by_ : Nat} {ag : Bool} {z : Option (List RV)} (hd : rtdOk P t d) (hs : szT P t = some sz) (ha : aggT P t = some ag) (hb : bytesT P t = some by_)
    (hz : ∀ z', z = some z' → ∃ v, zeroT P t = some v ∧ v.cells = z' ∧ z'.length = sz ∧ (ag = true → v = .agg z') ∧ (ag = false → z' = [v])) (h1 : ag = false → sz = 1) : RTOk P ⟨t, d, sz, ag, by_, z, none⟩ :=
  ⟨hd, hs, ha, hb, fun z' h => let ⟨v, a, b, c, d, e⟩ := hz z' h; ⟨v, a, b, c, d, fun h => ⟨e h, h1 h⟩⟩, fun ls h => by simp at h, h1, fun ls h => by simp at h⟩
theorem RTOk.q {t : TypeId} {d : RTD} {sz by_ : Nat} {ag : Bool} {z : Option (List RV)} {ls : List Lf} (hd : rtdOk P t d) (hs : szT P t = some sz) (ha : aggT P t = some ag) (hb : bytesT P t = some by_)
    (hz : ∀ z', z = some z' → ∃ v, zeroT P t = some v ∧ v.cells = z' ∧ z'.length = sz ∧ (ag = true → v = .agg z') ∧ (ag = false → z' = [v])) (h1 : ag = false → sz = 1) (he : eqShape P 20 t = some ls) (hg : P.eqGuardType P.depth t = false) (hl : sz = ls.length) :
    RTOk P ⟨t, d, sz, ag, by_, z, some ls⟩ :=
  ⟨hd, hs, ha, hb, fun z' h => let ⟨v, a, b, c, d, e⟩ := hz z' h; ⟨v, a, b, c, d, fun h => ⟨e h, h1 h⟩⟩, fun ls' h => by simp only [Option.some.injEq] at h; subst h; exact .of he hg, h1, fun ls' h => by simp only [Option.some.injEq] at h; subst h; exact .of he ha hl⟩
theorem zA {t : TypeId} {sz : Nat} {z : List RV} {ag : Bool} (h : zeroT P t = some (.agg z)) (hl : z.length = sz) (ha : ag = true) : ∀ z', some z = some z' → ∃ v, zeroT P t = some v ∧ v.cells = z' ∧ z'.length = sz ∧ (ag = true → v = .agg z') ∧ (ag = false → z' = [v]) :=
  fun z' e => by simp only [Option.some.injEq] at e; subst e; exact ⟨_, h, rfl, hl, fun _ => rfl, fun h => by rw [ha] at h; simp at h⟩
theorem zS {t : TypeId} {v : RV} {ag : Bool} (h : zeroT P t = some v) (hc : v.cells = [v]) (ha : ag = false) : ∀ z', some [v] = some z' → ∃ v, zeroT P t = some v ∧ v.cells = z' ∧ z'.length = 1 ∧ (ag = true → v = .agg z') ∧ (ag = false → z' = [v]) :=
  fun z' e => by simp only [Option.some.injEq] at e; subst e; exact ⟨_, h, hc, rfl, fun h => by rw [ha] at h; simp at h, fun _ => rfl⟩
theorem zN {t : TypeId} {sz : Nat} {ag : Bool} : ∀ z', (none : Option (List RV)) = some z' → ∃ v, zeroT P t = some v ∧ v.cells = z' ∧ z'.length = sz ∧ (ag = true → v = .agg z') ∧ (ag = false → z' = [v]) := fun z' e => by simp at e

theorem ttOk_of {l : List RTI} (h : ∀ ti ∈ l, RTOk P ti) : TtOk P (ofList (l.map fun ti => (ti.t, ti))) := fun t ti hti => by
  have := ofList_get hti
  rw [List.mem_map] at this
  obtain ⟨ti', h1, h2⟩ := this
  simp at h2
  obtain ⟨rfl, rfl⟩ := h2
  exact ⟨h _ h1, rfl⟩
theorem ftOk_of {l : List (Nat × FE)} (h : ∀ p ∈ l, FeOk P p.1 p.2) : FtOk P (ofList l) := fun f fe hf => h (f, fe) (ofList_get hf)
theorem all_nil {α : Type} {p : α → Prop} : ∀ a ∈ ([] : List α), p a := fun _ h => by simp at h
theorem all_cons {α : Type} {p : α → Prop} {a : α} {l : List α} (h : p a) (hl : ∀ b ∈ l, p b) : ∀ b ∈ a :: l, p b := fun b hb => by
  rcases List.mem_cons.1 hb with rfl | hb
  · exact h
  · exact hl b hb
end
end Go.Rx

/- Closed runs: what the printed tables use; what comes out. -/
namespace Go.Rx
/-- A function's body. -/
def bodyOf (f : Func) : Code :=
  match f.body with
  | some c => c
  | none => .skip

theorem noEscape_ok {P : Program} {f : FuncId} {fn : Func} (h : P.funcs[f]? = some fn) (hb : fn.body = none) (hn : (fn.name == "runtime.NumGoroutine") = false) (hx : ∀ x : Value, Extern.findNext fn = none ∧ ∃ e, Extern.find fn = some e ∧ e #[x] = pure x) : FeOk P f .same := by
  intro x w
  obtain ⟨h1, e, h2, h3⟩ := hx x
  have h8 : fn.name ≠ "runtime.NumGoroutine" := by simpa using hn
  refine ⟨w, ?_, rfl⟩
  have : (callFunc f ⟨[x]⟩) = (callFunc f #[x]) := rfl
  rw [this]
  simp [callFunc, h, hb, h8, h1, h2, h3, mark, Sem.run]

/-! ### Parts of the library that the model knows -/
theorem pure_ok {P : Program} {f : FuncId} {fn : Func} {e : Array Value → Sem Value} {g : List RV → Option RV} (h : P.funcs[f]? = some fn) (hb : fn.body = none) (hn : (fn.name == "runtime.NumGoroutine") = false) (h1 : Extern.findNext fn = none) (h2 : Extern.find fn = some e)
    (hg : ∀ (Γ : Gm) (args : List RV) (xs : List Value) (v : RV) (w : World), g args = some v → Reps Γ args xs → ∃ x, (e ⟨xs⟩).run P w = .ok x w ∧ Rep Γ v x) : FeOk P f (.pure g) := by
  intro Γ args xs v w hv hr
  obtain ⟨x, h3, h4⟩ := hg Γ args xs v w hv hr
  refine ⟨x, ?_, h4⟩
  have h8 : fn.name ≠ "runtime.NumGoroutine" := by simpa using hn
  simp [callFunc, h, hb, h8, h1, h2, h3]
theorem noNext_none {fn : Func} (h : (Extern.findNext fn).isNone = true) : Extern.findNext fn = none := by simpa using h

noncomputable def cmpN (a : List Nat) : List Nat → Int :=
  @List.rec Nat (fun _ => List Nat → Int) (fun b => @List.rec Nat (fun _ => Int) 0 (fun _ _ _ => -1) b)
    (fun x _ ih b => @List.rec Nat (fun _ => Int) 1 (fun y b _ => ifB (Nat.blt x y) (-1) (ifB (Nat.blt y x) 1 (ih b))) b) a
theorem cmpN_eq : ∀ (a b : List Nat), (∀ x ∈ a, x < 256) → (∀ x ∈ b, x < 256) → cmpN a b = Go.Lib.compareBytes (a.map UInt8.ofNat) (b.map UInt8.ofNat)
  | [], [], _, _ => rfl
  | [], _ :: _, _, _ => rfl
  | _ :: _, [], _, _ => rfl
  | x :: a, y :: b, ha, hb => by
    have ih := cmpN_eq a b (fun z hz => ha z (by simp [hz])) (fun z hz => hb z (by simp [hz]))
    have hx := ha x (by simp)
    have hy := hb y (by simp)
    show ifB (Nat.blt x y) (-1) (ifB (Nat.blt y x) 1 (cmpN a b)) = _
    simp only [List.map_cons, Go.Lib.compareBytes]
    have e1 : UInt8.ofNat x < UInt8.ofNat y ↔ x < y := by
      rw [UInt8.lt_iff_toNat_lt]; simp; rw [Nat.mod_eq_of_lt hx, Nat.mod_eq_of_lt hy]
    have e2 : UInt8.ofNat y < UInt8.ofNat x ↔ y < x := by
      rw [UInt8.lt_iff_toNat_lt]; simp; rw [Nat.mod_eq_of_lt hx, Nat.mod_eq_of_lt hy]
    rw [ifB_eq, ifB_eq, ih]
    simp only [e1, e2]
    have t1 : (Nat.blt x y = true) = (x < y) := by
      apply propext; show Nat.ble (x + 1) y = true ↔ _; rw [Nat.ble_eq]; omega
    have t2 : (Nat.blt y x = true) = (y < x) := by
      apply propext; show Nat.ble (y + 1) x = true ↔ _; rw [Nat.ble_eq]; omega
    simp only [t1, t2]
noncomputable def cmpX (args : List RV) : Option RV :=
  match args with
  | [.str a, .str b] => forceI (cmpN a.l b.l) fun n => some (.int .i64 n)
  | _ => none
theorem cmp_ok {P : Program} {f : FuncId} {fn : Func} (h : P.funcs[f]? = some fn) (hb : fn.body = none) (hn : (fn.name == "runtime.NumGoroutine") = false) (h1 : (Extern.findNext fn).isNone = true) (h2 : Extern.find fn = some Extern.BytealgCompare.compare) : FeOk P f (.pure cmpX) :=
  pure_ok h hb hn (noNext_none h1) h2 fun Γ args xs v w hv hr => by
    unfold cmpX at hv
    split at hv
    · rename_i a b
      rw [forceI_eq] at hv
      simp at hv
      obtain ⟨x, xs1, rfl, rx, r1⟩ := hr.inv_cons
      obtain ⟨y, xs2, rfl, ry, r2⟩ := r1.inv_cons
      obtain rfl := r2.inv_nil
      cases rx with
      | str _ =>
        cases ry with
        | str _ =>
          refine ⟨_, Go.Lib.run_compareString _ _ w, ?_⟩
          subst hv
          rw [cmpN_eq a.l b.l a.lt b.lt]
          exact .int _ _
    · simp at hv

noncomputable def idxN (a : List Nat) (c : Nat) : Nat → Int :=
  @List.rec Nat (fun _ => Nat → Int) (fun _ => -1) (fun x _ ih i => ifB (Nat.beq x c) (.ofNat i) (ih (Nat.succ i))) a
theorem idxN_eq (c : Nat) (hc : c < 256) : ∀ (a : List Nat) (i : Nat), (∀ x ∈ a, x < 256) → idxN a c i = (if Go.Lib.indexByte (a.map UInt8.ofNat) (UInt8.ofNat c) = -1 then -1 else (i : Int) + Go.Lib.indexByte (a.map UInt8.ofNat) (UInt8.ofNat c))
  | [], i, _ => rfl
  | x :: a, i, ha => by
    have ih := idxN_eq c hc a (i + 1) (fun z hz => ha z (by simp [hz]))
    have hx := ha x (by simp)
    show ifB (Nat.beq x c) (.ofNat i) (idxN a c (i + 1)) = _
    have e1 : (UInt8.ofNat x == UInt8.ofNat c) = Nat.beq x c := by
      by_cases h : x = c
      · subst h; simp
      · have h2 : ¬ UInt8.ofNat x = UInt8.ofNat c := fun e => h (by
          have := congrArg UInt8.toNat e
          simp at this
          rw [Nat.mod_eq_of_lt hx, Nat.mod_eq_of_lt hc] at this
          exact this)
        have h3 : Nat.beq x c = false := by
          cases hb : Nat.beq x c with
          | false => rfl
          | true => exact absurd (Nat.eq_of_beq_eq_true hb) h
        rw [h3]; simpa using h2
    rw [ifB_eq, ih]
    simp only [List.map_cons, Go.Lib.indexByte, e1]
    cases Nat.beq x c with
    | true => simp
    | false =>
      simp only [Bool.false_eq_true, if_false]
      have hge := Go.Lib.indexByte_ge (a.map UInt8.ofNat) (UInt8.ofNat c)
      by_cases hm : Go.Lib.indexByte (a.map UInt8.ofNat) (UInt8.ofNat c) = -1
      · simp [hm]
      · simp only [hm, beq_iff_eq, if_false]
        rw [if_neg (by omega)]
        omega
noncomputable def idxX (args : List RV) : Option RV :=
  match args with
  | [.str a, .int .u8 (.ofNat c)] => ifB (Nat.blt c 256) (forceI (idxN a.l c 0) fun n => some (.int .i64 n)) none
  | _ => none
theorem idx_ok {P : Program} {f : FuncId} {fn : Func} (h : P.funcs[f]? = some fn) (hb : fn.body = none) (hn : (fn.name == "runtime.NumGoroutine") = false) (h1 : (Extern.findNext fn).isNone = true) (h2 : Extern.find fn = some Extern.BytealgIndexByte.indexByte) : FeOk P f (.pure idxX) :=
  pure_ok h hb hn (noNext_none h1) h2 fun Γ args xs v w hv hr => by
    unfold idxX at hv
    split at hv
    · rename_i a c
      rw [ifB_eq, forceI_eq] at hv
      split at hv
      · rename_i hlt
        have hlt : c < 256 := Nat.le_of_ble_eq_true hlt
        simp at hv
        obtain ⟨x, xs1, rfl, rx, r1⟩ := hr.inv_cons
        obtain ⟨y, xs2, rfl, ry, r2⟩ := r1.inv_cons
        obtain rfl := r2.inv_nil
        cases rx with
        | str _ =>
          cases ry with
          | int _ _ =>
            refine ⟨_, Go.Lib.run_indexByteString _ _ w, ?_⟩
            subst hv
            rw [idxN_eq c hlt a.l 0 a.lt]
            generalize a.l = a
            have : ((Int.ofNat c).toNat).toUInt8 = UInt8.ofNat c := rfl
            rw [this]
            have e : (bytes a).data.toList = a.map UInt8.ofNat := by simp [bytes]
            rw [e]
            split
            · rename_i hm; rw [hm]; exact .int _ _
            · rw [show ((0 : Nat) : Int) + Go.Lib.indexByte (a.map UInt8.ofNat) (UInt8.ofNat c) = Go.Lib.indexByte (a.map UInt8.ofNat) (UInt8.ofNat c) by omega]
              exact .int _ _
      · simp at hv
    · simp at hv

noncomputable def countN (a : List Nat) (c : Nat) : Nat := @List.rec Nat (fun _ => Nat) 0 (fun x _ ih => ifB (Nat.beq x c) (Nat.succ ih) ih) a
theorem u8_beq {x c : Nat} (hx : x < 256) (hc : c < 256) : (UInt8.ofNat x == UInt8.ofNat c) = Nat.beq x c := by
  by_cases h : x = c
  · subst h; simp
  · have h2 : ¬ UInt8.ofNat x = UInt8.ofNat c := fun e => h (by
      have := congrArg UInt8.toNat e
      simp at this
      rw [Nat.mod_eq_of_lt hx, Nat.mod_eq_of_lt hc] at this
      exact this)
    have h3 : Nat.beq x c = false := by
      cases hb : Nat.beq x c with
      | false => rfl
      | true => exact absurd (Nat.eq_of_beq_eq_true hb) h
    rw [h3]; simpa using h2
theorem countN_eq (c : Nat) (hc : c < 256) : ∀ (a : List Nat), (∀ x ∈ a, x < 256) → countN a c = Go.Lib.countByte (a.map UInt8.ofNat) (UInt8.ofNat c)
  | [], _ => rfl
  | x :: a, ha => by
    have ih := countN_eq c hc a (fun z hz => ha z (by simp [hz]))
    show ifB (Nat.beq x c) (Nat.succ (countN a c)) (countN a c) = _
    unfold Go.Lib.countByte at ih ⊢
    rw [List.map_cons, List.count_cons, u8_beq (ha x (by simp)) hc, ifB_eq, ih]
    cases Nat.beq x c <;> simp
noncomputable def countX (args : List RV) : Option RV :=
  match args with
  | [.str a, .int .u8 (.ofNat c)] => ifB (Nat.blt c 256) (forceN (countN a.l c) fun n => some (.int .i64 (.ofNat n))) none
  | _ => none
theorem count_ok {P : Program} {f : FuncId} {fn : Func} (h : P.funcs[f]? = some fn) (hb : fn.body = none) (hn : (fn.name == "runtime.NumGoroutine") = false) (h1 : (Extern.findNext fn).isNone = true) (h2 : Extern.find fn = some Extern.BytealgCount.count) : FeOk P f (.pure countX) :=
  pure_ok h hb hn (noNext_none h1) h2 fun Γ args xs v w hv hr => by
    unfold countX at hv
    split at hv
    · rename_i a c
      rw [ifB_eq, forceN_eq] at hv
      split at hv
      · rename_i hlt
        have hlt : c < 256 := Nat.le_of_ble_eq_true hlt
        simp at hv
        obtain ⟨x, xs1, rfl, rx, r1⟩ := hr.inv_cons
        obtain ⟨y, xs2, rfl, ry, r2⟩ := r1.inv_cons
        obtain rfl := r2.inv_nil
        cases rx with
        | str _ =>
          cases ry with
          | int _ _ =>
            refine ⟨_, Go.Lib.run_countString _ _ w, ?_⟩
            subst hv
            rw [countN_eq c hlt a.l a.lt]
            generalize a.l = a
            have : ((Int.ofNat c).toNat).toUInt8 = UInt8.ofNat c := rfl
            rw [this]
            have e : (bytes a).data.toList = a.map UInt8.ofNat := by simp [bytes]
            rw [e]
            exact .int _ _
      · simp at hv
    · simp at hv

noncomputable def sameX (args : List RV) : Option RV :=
  match args with
  | [x] => some x
  | _ => none
theorem same_ok {P : Program} {f : FuncId} {fn : Func} (h : P.funcs[f]? = some fn) (hb : fn.body = none) (hn : (fn.name == "runtime.NumGoroutine") = false) (h1 : (Extern.findNext fn).isNone = true) (h2 : Extern.find fn = some Extern.AbiNoEscape.same) : FeOk P f (.pure sameX) :=
  pure_ok h hb hn (noNext_none h1) h2 fun Γ args xs v w hv hr => by
    unfold sameX at hv
    split at hv
    · simp at hv
      obtain ⟨x, xs1, rfl, rx, r1⟩ := hr.inv_cons
      obtain rfl := r1.inv_nil
      subst hv
      exact ⟨x, rfl, rx⟩
    · simp at hv

theorem room_ok {P : Program} {f : FuncId} {fn : Func} {t e : TypeId} (h : P.funcs[f]? = some fn) (hb : fn.body = none) (hn : (fn.name == "runtime.NumGoroutine") = false) (h1 : (Extern.findNext fn).isNone = true) {ps : Array TypeId}
    (h2 : Extern.find fn = some (Extern.BytealgMakeNoZero.makeNoZero ps #[t])) (ht : P.underlying t = some (.slice e)) : FeOk P f (.room e) := by
  intro args H v H' hv N h0 Γ w xs m ra
  unfold roomV at hv
  split at hv
  · rename_i n
    replace hv := ifB_ok hv; obtain ⟨hle, hv⟩ := hv
    have hle := Nat.le_of_ble_eq_true hle
    obtain ⟨x, xs1, rfl, rx, r1⟩ := ra.inv_cons
    obtain rfl := r1.inv_nil
    obtain rfl := rep_int rx
    obtain ⟨cs, hr, hge, _, _⟩ := Go.Lib.run_makeNoZero_cap (P := P) w ps t e ht n (by omega)
    have h8 : fn.name ≠ "runtime.NumGoroutine" := by simpa using hn
    have hr' : (Extern.BytealgMakeNoZero.makeNoZero ps #[t] #[.int .i64 (Int.ofNat n)]).run P w = .ok (.slice (some ⟨w.heap.size, 0, none⟩) n cs.size) (w.drew.drew.alloc (.cells cs e)) := hr
    have hrun : (callFunc f ⟨[.int .i64 (Int.ofNat n)]⟩).run P w = .ok (.value (.slice (some ⟨w.heap.size, 0, none⟩) n cs.size)) (w.drew.drew.alloc (.cells cs e)) := by
      simp [callFunc, h, hb, h8, noNext_none h1, h2]
      have hr2 : (Extern.BytealgMakeNoZero.makeNoZero ps #[t] { toList := [Value.int IntKind.i64 ↑n] }).run P w = .ok (.slice (some ⟨w.heap.size, 0, none⟩) n cs.size) (w.drew.drew.alloc (.cells cs e)) := hr'
      rw [hr2]; rfl
    have hd : Done N h0 Γ w H ((callFunc f ⟨[.int .i64 (Int.ofNat n)]⟩).run P w) v H' :=
      new_done (cs := []) (xs := []) (rest := cs.toList) (f := fun l => .sl l 0 n 1 none) (w' := w.drew.drew.alloc (.cells cs e)) (E := e) (fz := (0, 0)) m Reps.nil (by simp) hv rfl rfl rfl (unfz_zero _) hrun
        (.sl H.sz 0 n 1 none ⟨w.heap.size, 0, ([] ++ cs.toList).length⟩ ⟨w.heap.size, 0, none⟩ cs.size (by simp [put]) hge (by simp) (fun _ => ⟨rfl, by simp⟩)) (.inr rfl)
    rw [hrun] at hd ⊢
    obtain ⟨y, Γ', w', hy, hx, hrep⟩ := hd
    rcases hy with hy | ⟨hy, _⟩
    · simp at hy
      obtain ⟨rfl, rfl⟩ := hy
      exact ⟨Γ', hx, hrep⟩
    · simp at hy
  · simp at hv

/-- It answers true. -/
def OR.isTrue : OR → Bool
  | .ok (.bool b) _ => b
  | _ => false
theorem isTrue_ok {o : OR} (h : o.isTrue = true) : ∃ H, o = .ok (.bool true) H := by
  unfold OR.isTrue at h
  split at h
  · subst h; exact ⟨_, rfl⟩
  · simp at h
end Go.Rx

/- Closed runs: what a run answers, in the kit's words. -/
namespace Go.Rx
open Go.RowKit

/-- What is behind a law's call: true; what was there stands. -/
def Grown (w w' : World) : Prop := w.keptBut w' (fun _ => False) ∧ (∀ a : Addr, a.block < w.heap.size → w'.frozen? a = w.frozen? a) ∧ w.heap.size ≤ w'.heap.size
def Stood (w : World) (e : Ending) (w' : World) : Prop := e = .returned (.bool true) ∧ Grown w w' ∧ ∀ i, i < w.heap.size → w'.heap[i]? = w.heap[i]?

theorem ext_grown {w w' : World} {Γ Γ' : Gm} {H H' : HT} (x : Ext w.heap.size w.heap Γ w H Γ' w' H') : Grown w w' := by
  have same : ∀ i, i < w.heap.size → w'.heap[i]? = w.heap[i]? := x.mem.old
  refine ⟨⟨x.kept.os, x.kept.output, fun i hi => ?_⟩, fun a ha => by unfold World.frozen?; rw [same _ ha], x.kept.size⟩
  rw [same i hi]
  cases w.heap[i]? with
  | none => rfl
  | some o => cases o <;> simp

theorem calls_stood {P : Program} {f : FuncId} {fn : Func} {c : Code} (hf : P.funcs[f]? = some fn) (hb : fn.body = some c) (hname : (fn.name == "runtime.NumGoroutine") = false) {args : List RV} {H1 : HT} (h : CallR P f args ⟨0, .e⟩ (.bool true) H1) (w : World) {xs : List Value} (hr : Reps (fun _ => none) args xs) :
    Calls P f ⟨xs⟩ w (Stood w) := by
  have h8 : fn.name ≠ "runtime.NumGoroutine" := by simpa using hname
  have hcall : (callFunc f ⟨xs⟩).run P w = .ok (.enter f ⟨xs⟩) w := by simp [callFunc, hf, hb, h8]
  have h := h w.heap.size w.heap (fun _ => none) w xs (mem_none0 _) hr
  rw [hcall] at h
  exact h.mono fun e w' ⟨x, Γ', he, hx, hv⟩ => ⟨by cases hv; exact he, ext_grown hx, hx.mem.old⟩

/-- An argument reads behind the call as it did. -/
theorem again {H : Type} {enc : TypeId × Value → H} {P : Program} {t : TypeId} (hl : laidOutB P = true) (hr : P.readableRec t = true) (hrow : t < P.types.size) {W W' : World} {v : Value} {d : DataW H} {ps : List MemPlace}
    (h : DataW.Trod enc P W 0 (fun _ => true) true t v d ps) (hb : ∀ i, i < W.heap.size → W'.heap[i]? = W.heap[i]?) {sp : Nat → Bool} (hs : ∀ p ∈ ps, sp p.block = true) : DataW.Trod enc P W' 0 sp true t v d ps := by
  obtain ⟨n, hn⟩ := h
  have hlt := DataW.trod_lt n _ _ _ hn
  refine WideElems.Trod_stays hl hr hrow ⟨n, hn⟩ (fun p hp => ?_) hs
  cases p with
  | cell b o => exact World.cell?_of_block (w := W) (hb b (hlt _ hp))
  | map b => exact hb b (hlt _ hp)

/-- What a law leaves: as it was. -/
theorem post_old {H : Type} {enc : TypeId × Value → H} {P : Program} {f : Func} {s : ChangeSpec} {apart fresh handsOn back : Bool} {W W' : World} {args : Array Value} {v : Value} {ds gs : List (DataW H)} {ps pa pv : List MemPlace}
    (hW : DataW.Whole enc P f.params.toList s.vars apart W args.toList ds gs ps)
    (hr : ∀ (b : Nat) (sp : Nat → Bool) (hd : Bool), DataW.TrodAll enc P W' b sp hd f.resultTypes.toList (v.resultList f.resultTypes.size) (s.fn H (ds ++ gs)).results [])
    (ha : ∀ sp : Nat → Bool, (∀ p ∈ ps, sp p.block = true) → DataW.TrodAll enc P W' 0 sp true f.params.toList args.toList (s.fn H (ds ++ gs)).args pa)
    (hv : ∀ sp : Nat → Bool, (∀ p ∈ ps, sp p.block = true) → DataW.TrodVars enc P W' sp s.vars (s.fn H (ds ++ gs)).vars pv)
    (hp : ps = pa ++ pv) (hg : Grown W W')
    (ho : ∀ (j : Nat) (t : TypeId) (r : Value), f.resultTypes[j]? = some t → (v.resultList f.resultTypes.size)[j]? = some r → Value.okWide P W' .any 0 t r) :
    s.post enc P f apart fresh handsOn back W args v W' := by
  have low : ∀ p ∈ ps, p.block < W.heap.size := hW.lt
  have inB : ∀ p ∈ ps, (fun b => decide (b < W.heap.size)) p.block = true := fun p h => decide_eq_true (low p h)
  have same : ps = ([] ++ pa) ++ pv := by rw [List.nil_append]; exact hp
  refine ⟨ds, gs, ps, [], pa, pv, hW, hr _ _ _, ha _ inB, hv _ inB, World.keptBut_mono (fun _ h => h.elim) hg.1, fun _ => ?_⟩
  obtain ⟨_, _, _, _, _, nf, nd⟩ := hW
  refine ⟨ho, _, _, ([] ++ pa) ++ pv, ⟨[] ++ pa, pv, Go.ChangeShapes.trodAll_append (ha _ (fun _ _ => rfl)) (hr _ _ _), hv _ (fun _ _ => rfl), rfl, fun b off h => ?_, fun h => ?_⟩, fun p h _ => ?_⟩
  · rw [← same] at h
    rw [hg.2.1 ⟨b, off, none⟩ (low _ h)]
    exact nf b off h
  · rw [← same]; exact nd h
  · rw [← same] at h; exact h

/-! ### Arguments as values -/
section
variable {H : Type} {enc : TypeId × Value → H} {P : Program} {w : World} {base : Nat} {sp : Nat → Bool} {held : Bool} {r : Reach} {b0 : Nat} {t : TypeId} {v : Value} {d : DataW H} {ps : List MemPlace}
theorem arg_int {k : IntKind} (ht : P.underlying t = some (.int k)) (hval : Value.okWide P w r b0 t v) (hd : DataW.Trod enc P w base sp held t v d ps) : ∃ n : Int, v = .int k n ∧ (Lit.int k n).wf = true := by
  obtain ⟨n, rfl, _, _, hw⟩ := Go.ChangeShapes.open_int ht hval hd
  exact ⟨n, rfl, hw⟩
end
theorem Reps.one {Γ : Gm} {c : RV} {x : Value} (h : Rep Γ c x) : Reps Γ [c] [x] := ⟨rfl, fun i a y h1 h2 => by
  cases i with
  | zero => simp at h1 h2; subst h1 h2; exact h
  | succ i => simp at h1⟩

/-- A function that is known to answer. -/
noncomputable def putT {α : Type} (t : T α) (f : Nat) (x : α) : T α := T.setK t f x fun t => t
theorem ftOk_put {P : Program} {ft : T FE} (h : FtOk P ft) {f : FuncId} {fe : FE} (hk : FeOk P f fe) : FtOk P (putT ft f fe) := by
  obtain ⟨t', h1, h2⟩ := T.setK_spec ft f fe (fun t => t)
  intro g ge hg
  unfold putT at hg
  rw [h1, h2] at hg
  split at hg
  · rename_i e
    simp at hg
    subst hg e
    exact hk
  · exact h g ge hg

/-- What a run answers. -/
theorem run_ok {P : Program} {tt : T RTI} {ft : T FE} {big d : Nat} {f : FuncId} {args : List RV} (hT : TtOk P tt) (hm : P.follows .mixedOrders = true) (hF : FtOk P ft) (h : (funF tt ft big d f args ⟨0, .e⟩).isTrue = true) :
    ∃ H1, CallR P f args ⟨0, .e⟩ (.bool true) H1 := by
  obtain ⟨H1, h⟩ := isTrue_ok h
  exact ⟨H1, funF_sound hT hm hF d f args _ _ H1 h⟩
theorem known_run {P : Program} {tt : T RTI} {ft : T FE} {big d : Nat} {f : FuncId} (hT : TtOk P tt) (hm : P.follows .mixedOrders = true) (hF : FtOk P ft) (h : (funF tt ft big d f [] ⟨0, .e⟩).isTrue = true) :
    FeOk P f (.known true) := by
  obtain ⟨H1, h⟩ := run_ok hT hm hF h
  exact known_of h

/-! ### Numbers that are not known -/
theorem sAr_and {n : Int} {m : Nat} (hm : m < 2 ^ 62) : ∃ r : Int, sAr .and n m = some r ∧ 0 ≤ r ∧ r ≤ m := by
  refine ⟨_, rfl, ?_⟩
  have hb : (BitVec.ofInt IntKind.i64.bits (m : Int)).toNat = m := by
    have : IntKind.i64.bits = 64 := rfl
    rw [this]
    simp
    omega
  have hle : (BitVec.ofInt IntKind.i64.bits n &&& BitVec.ofInt IntKind.i64.bits (m : Int)).toNat ≤ m := by
    rw [BitVec.toNat_and, hb]
    exact Nat.and_le_right
  generalize (BitVec.ofInt IntKind.i64.bits n &&& BitVec.ofInt IntKind.i64.bits (m : Int)).toNat = r at hle
  have hw : IntKind.i64.wrap r = r := by
    simp only [IntKind.wrap, IntKind.bits, IntKind.signed]
    simp
    omega
  rw [hw]
  omega
theorem sy_one {n r : Int} {op : BinOp} {b : Int} {s : Sy} (h : sAr op n b = some r) (hs : SyOk s r) : SyOk (.node [(op, b, s)]) n :=
  .node _ _ (fun _ _ => r) (fun op' b' s' hm => by simp at hm; obtain ⟨rfl, rfl, rfl⟩ := hm; exact h) (fun op' b' s' hm => by simp at hm; obtain ⟨rfl, rfl, rfl⟩ := hm; exact hs)
end Go.Rx

/- Closed runs: the same evaluator, quicker: what a step takes is told by the one word that it looks at. -/
namespace Go.Rx

/-! ### One word looked at -/
section
variable {β : Type}
noncomputable def onPtr (v : RV) (d : β) (k : Nat → Nat → β) : β := match v with | .ptr l o => k l o | _ => d
noncomputable def onInt (v : RV) (d : β) (k : IntKind → Int → β) : β := match v with | .int q n => k q n | _ => d
noncomputable def onStr (v : RV) (d : β) (k : Sb → β) : β := match v with | .str s => k s | _ => d
noncomputable def onSl (v : RV) (d : β) (z : β) (k : Nat → Nat → Nat → Nat → Option Nat → β) : β := match v with | .sl l o n s c => k l o n s c | .slnil => z | _ => d
noncomputable def onAgg (v : RV) (d : β) (k : List RV → β) : β := match v with | .agg cs => k cs | _ => d
noncomputable def dSt (v : RTD) (d : β) (k : List (Nat × TypeId) → β) : β := match v with | .st fs => k fs | _ => d
noncomputable def dSl (v : RTD) (d : β) (k : TypeId → β) : β := match v with | .sl e => k e | _ => d
noncomputable def dSlArr (v : RTD) (d : β) (k : TypeId → β) (a : Nat → TypeId → β) : β := match v with | .sl e => k e | .arr n e => a n e | _ => d
noncomputable def dStrArr (v : RTD) (d : β) (k : β) (a : Nat → TypeId → β) : β := match v with | .str => k | .arr n e => a n e | _ => d
noncomputable def dStrSl (v : RTD) (d : β) (k : β) (a : TypeId → β) : β := match v with | .str => k | .sl e => a e | _ => d
noncomputable def dInt (v : RTD) (d : β) (k : IntKind → β) : β := match v with | .int q => k q | _ => d
end
/-- The first word's kind. -/
inductive K4 where
  | int (k : IntKind) (n : Int) | str (s : Sb) | sym (s : Sy) | no | other
noncomputable def kind4 (v : RV) : K4 := match v with | .int k n => .int k n | .str s => .str s | .sym s => .sym s | .nili => .no | .any => .no | _ => .other

/-! ### Numbers -/
noncomputable def i_add (k : IntKind) (a b : Int) : Option RV := forceI (wr k (Int.add a b)) fun n => some (.int k n)
noncomputable def i_sub (k : IntKind) (a b : Int) : Option RV := forceI (wr k (Int.sub a b)) fun n => some (.int k n)
noncomputable def i_mul (k : IntKind) (a b : Int) : Option RV := forceI (wr k (Int.mul a b)) fun n => some (.int k n)
noncomputable def i_quo (k : IntKind) (a b : Int) : Option RV := onOpt (ifB (eqI b (.ofNat 0)) none (some (wr k (Int.tdiv a b)))) none fun n => forceI n fun n => some (.int k n)
noncomputable def i_rem (k : IntKind) (a b : Int) : Option RV := onOpt (ifB (eqI b (.ofNat 0)) none (some (Int.tmod a b))) none fun n => forceI n fun n => some (.int k n)
noncomputable def i_and (k : IntKind) (a b : Int) : Option RV := forceI (andI k a b) fun n => some (.int k n)
noncomputable def i_or (k : IntKind) (a b : Int) : Option RV := forceI (orI k a b) fun n => some (.int k n)
noncomputable def i_xor (k : IntKind) (a b : Int) : Option RV := forceI (bitsV k (· ^^^ ·) a b) fun n => some (.int k n)
def i_none (_ : IntKind) (_ _ : Int) : Option RV := none
noncomputable def i_eql (_ : IntKind) (a b : Int) : Option RV := forceB (eqI a b) fun t => some (.bool t)
noncomputable def i_neq (_ : IntKind) (a b : Int) : Option RV := forceB (ifB (eqI a b) false true) fun t => some (.bool t)
noncomputable def i_lss (_ : IntKind) (a b : Int) : Option RV := forceB (ltI a b) fun t => some (.bool t)
noncomputable def i_leq (_ : IntKind) (a b : Int) : Option RV := forceB (ifB (ltI b a) false true) fun t => some (.bool t)
noncomputable def i_gtr (_ : IntKind) (a b : Int) : Option RV := forceB (ltI b a) fun t => some (.bool t)
noncomputable def i_geq (_ : IntKind) (a b : Int) : Option RV := forceB (ifB (ltI a b) false true) fun t => some (.bool t)
noncomputable def same2 (f : IntKind → Int → Int → Option RV) (k : IntKind) (a : Int) (k' : IntKind) (b : Int) : Option RV := ifB (kindEq k k') (f k a b) none
noncomputable def i_shl (k : IntKind) (a : Int) (_ : IntKind) (b : Int) : Option RV := shI .shl k a b
noncomputable def i_shr (k : IntKind) (a : Int) (_ : IntKind) (b : Int) : Option RV := shI .shr k a b
noncomputable def intF (op : BinOp) : IntKind → Int → IntKind → Int → Option RV :=
  @BinOp.casesOn (fun _ => IntKind → Int → IntKind → Int → Option RV) op (same2 i_add) (same2 i_sub) (same2 i_mul) (same2 i_quo) (same2 i_rem) (same2 i_and) (same2 i_or) (same2 i_xor) i_shl i_shr (same2 i_none)
    (same2 i_eql) (same2 i_neq) (same2 i_lss) (same2 i_leq) (same2 i_gtr) (same2 i_geq)
noncomputable def eqlF (tt : T RTI) (t : TypeId) (x y : RV) : Option RV := tyK tt t none fun ti => onOpt (eqV ti x y) none fun r => forceB r fun r => some (.bool r)
noncomputable def neqF (tt : T RTI) (t : TypeId) (x y : RV) : Option RV := tyK tt t none fun ti => onOpt (eqV ti x y) none fun r => forceB (ifB r false true) fun r => some (.bool r)
noncomputable def restF (op : BinOp) (tt : T RTI) (t : TypeId) (x y : RV) : Option RV := match op with | .eql => eqlF tt t x y | .neq => neqF tt t x y | _ => none
noncomputable def binF (tt : T RTI) (op : BinOp) (t : TypeId) (x y : RV) : Option RV :=
  @K4.casesOn (fun _ => Option RV) (kind4 x) (fun k a => onInt y none fun k' b => intF op k a k' b) (fun a => onStr y none fun b => strBin op a b) (fun s => onInt y none fun k b => symV op s k b) none (restF op tt t x y)
theorem int_eq (tt : T RTI) (op : BinOp) (t : TypeId) (k : IntKind) (a : Int) (k' : IntKind) (b : Int) : intF op k a k' b = binV tt op t (.int k a) (.int k' b) := by cases op <;> rfl
theorem binF_eq (tt : T RTI) (op : BinOp) (t : TypeId) (x y : RV) : binF tt op t x y = binV tt op t x y := by
  cases x
  case int k a =>
    cases y
    case int k' b => exact int_eq tt op t k a k' b
    all_goals rfl
  case str a => cases y <;> rfl
  case sym s => cases y <;> rfl
  case nili => cases y <;> rfl
  case any => cases y <;> rfl
  all_goals (cases y <;> rfl)

/-! ### Parts -/
section
variable (tt : T RTI)
noncomputable def fieldAddrF (t : TypeId) (x : RV) (f : Nat) : Option RV :=
  tyK tt t none fun ti => dSt ti.d none fun fs => onPtr x none fun l off => onOpt (nthL fs f) none fun p => tyK tt p.2 none fun fi => ifB (Nat.ble 1 fi.sz) (forceN (Nat.add off p.1) fun o => some (.ptr l o)) none
noncomputable def fieldF (t : TypeId) (x : RV) (f : Nat) : Option RV :=
  tyK tt t none fun ti => dSt ti.d none fun fs => onAgg x none fun cs => onOpt (nthL fs f) none fun p => tyK tt p.2 none fun fi => partV fi cs p.1
noncomputable def indexAddrF (t : TypeId) (x i : RV) : Option RV :=
  tyK tt t none fun ti => dSlArr ti.d none
    (fun e => onSl x none none fun l off n sz _ => tyK tt e none fun ei => ifB (Nat.beq ei.sz sz) (natV i none fun m => ifB (Nat.blt m n) (forceN (Nat.add off (Nat.mul m sz)) fun o => some (.ptr l o)) none) none)
    (fun len e => onPtr x none fun l off => tyK tt e none fun ei => natV i none fun m => ifB (Nat.blt m len) (ifB (Nat.blt 1 len) (forceN (Nat.add off (Nat.mul m ei.sz)) fun o => some (.ptr l o)) none) none)
noncomputable def indexF (t : TypeId) (x i : RV) : Option RV :=
  tyK tt t none fun ti => dStrArr ti.d none
    (onStr x none fun s => natV i none fun n => ifB (Nat.blt n s.n) (forceN (Nat.mod (Nat.shiftRight s.c (Nat.mul 8 n)) 256) fun b => some (.int .u8 (.ofNat b))) none)
    (fun len e => onAgg x none fun cs => tyK tt e none fun ei => natV i none fun n => ifB (Nat.blt n len) (partV ei cs (Nat.mul n ei.sz)) none)
noncomputable def sliceF (t : TypeId) (x : RV) (lo hi : Option RV) : Option RV :=
  tyK tt t none fun ti => dStrSl ti.d none
    (onStr x none fun s => boundK hi s.n s.n none fun h => boundK lo 0 h none fun l => cutK s l h fun r => some (.str r))
    (fun e => onSl x none (tyK tt e none fun _ => boundK hi 0 0 none fun h => boundK lo 0 h none fun _ => some .slnil)
      (fun b off n sz c => tyK tt e none fun ei => ifB (Nat.beq ei.sz sz)
        (boundK hi n (onOpt c n fun c => c) none fun h => boundK lo 0 h none fun l =>
          forceN (Nat.add off (Nat.mul l sz)) fun o => forceN (Nat.sub h l) fun m => onOpt c (some (.sl b o m sz none)) fun c => forceN (Nat.sub c l) fun c => some (.sl b o m sz (some c))) none))
noncomputable def lenF (H : HT) (t : TypeId) (x : RV) : Option RV :=
  tyK tt t none fun ti => dStrSl ti.d (lenV tt H t x) (onStr x none fun s => some (.int .i64 (.ofNat s.n)))
    (fun _ => onSl x none (some (.int .i64 (.ofNat 0))) fun _ _ n _ _ => some (.int .i64 (.ofNat n)))
noncomputable def convertF (H : HT) (src dst : TypeId) (x : RV) : OR :=
  tyK tt src .bad fun si => tyK tt dst .bad fun di => dInt si.d (convertV tt H src dst x) fun _ => dInt di.d .bad fun k => onInt x .bad fun _ n => forceI (wr k n) fun n => .ok (.int k n) H
end

theorem tyK_congr {β : Type} {tt : T RTI} {t : TypeId} {d : β} {k k' : RTI → β} (h : ∀ ti, tt.get t = some ti → k ti = k' ti) : tyK tt t d k = tyK tt t d k' := by
  unfold tyK
  cases hg : tt.get t with
  | none => rfl
  | some ti => exact h ti hg
theorem fieldAddrF_eq (tt : T RTI) (t : TypeId) (x : RV) (f : Nat) : fieldAddrF tt t x f = fieldAddrV tt t x f := by
  unfold fieldAddrF fieldAddrV
  refine tyK_congr fun ti _ => ?_
  obtain ⟨t', d, sz, ag, by_, z, eq⟩ := ti
  cases d <;> cases x <;> rfl
theorem fieldF_eq (tt : T RTI) (t : TypeId) (x : RV) (f : Nat) : fieldF tt t x f = fieldV tt t x f := by
  unfold fieldF fieldV
  refine tyK_congr fun ti _ => ?_
  obtain ⟨t', d, sz, ag, by_, z, eq⟩ := ti
  cases d <;> cases x <;> rfl
theorem indexAddrF_eq (tt : T RTI) (t : TypeId) (x i : RV) : indexAddrF tt t x i = indexAddrV tt t x i := by
  unfold indexAddrF indexAddrV
  refine tyK_congr fun ti _ => ?_
  obtain ⟨t', d, sz, ag, by_, z, eq⟩ := ti
  cases d <;> cases x <;> rfl
theorem indexF_eq (tt : T RTI) (t : TypeId) (x i : RV) : indexF tt t x i = indexV tt t x i := by
  unfold indexF indexV
  refine tyK_congr fun ti _ => ?_
  obtain ⟨t', d, sz, ag, by_, z, eq⟩ := ti
  cases d <;> cases x <;> rfl
theorem sliceF_eq (tt : T RTI) (t : TypeId) (x : RV) (lo hi : Option RV) : sliceF tt t x lo hi = sliceV tt t x lo hi := by
  unfold sliceF sliceV
  refine tyK_congr fun ti _ => ?_
  obtain ⟨t', d, sz, ag, by_, z, eq⟩ := ti
  cases d <;> cases x <;> rfl
theorem tyK_at {β : Type} {tt : T RTI} {t : TypeId} {d : β} {k : RTI → β} {ti : RTI} (h : tt.get t = some ti) : tyK tt t d k = k ti := by
  unfold tyK; rw [h]; rfl
theorem lenF_eq (tt : T RTI) (H : HT) (t : TypeId) (x : RV) : lenF tt H t x = lenV tt H t x := by
  cases hg : tt.get t with
  | none => unfold lenF lenV tyK; rw [hg]; rfl
  | some ti =>
    unfold lenF
    rw [tyK_at hg]
    obtain ⟨t', d, sz, ag, by_, z, eq⟩ := ti
    cases d
    case str => unfold lenV; rw [tyK_at hg]; cases x <;> rfl
    case sl e => unfold lenV; rw [tyK_at hg]; cases x <;> rfl
    all_goals rfl
theorem convertF_eq (tt : T RTI) (H : HT) (s d : TypeId) (x : RV) : convertF tt H s d x = convertV tt H s d x := by
  cases hs : tt.get s with
  | none => unfold convertF convertV tyK; rw [hs]; rfl
  | some si =>
    cases hd : tt.get d with
    | none => unfold convertF convertV tyK; rw [hs, hd]; rfl
    | some di =>
      unfold convertF
      rw [tyK_at hs, tyK_at hd]
      obtain ⟨t', d1, sz, ag, by_, z, eq⟩ := si
      obtain ⟨t2, d2, sz2, ag2, by2, z2, eq2⟩ := di
      cases d1
      case int k1 =>
        unfold convertV
        rw [tyK_at hs, tyK_at hd]
        cases d2 <;> cases x <;> rfl
      all_goals rfl
noncomputable def sliceOF (tt : T RTI) (env : T RV) (H : HT) (t : TypeId) (x : Operand) (lo hi mx : Option Operand) : OR :=
  match mx with
  | none => ev1 env x fun u => onOpt (optEv env lo) .bad fun l => onOpt (optEv env hi) .bad fun h => okV (sliceF tt t u l h) H
  | some _ => .bad
theorem sliceOF_eq {tt : T RTI} {env : T RV} {H : HT} {t : TypeId} {x : Operand} {lo hi mx : Option Operand} : sliceOF tt env H t x lo hi mx = sliceO tt env H t x lo hi mx := by
  unfold sliceOF sliceO
  cases mx with
  | none => simp only [sliceF_eq]
  | some m => rfl

/-! ### Builtins -/
noncomputable def u_one (k : TypeId → RV → OR) (ts : List TypeId) (vs : List RV) : OR := match ts, vs with | [t], [x] => k t x | _, _ => .bad
noncomputable def u_two (k : TypeId → TypeId → RV → RV → OR) (ts : List TypeId) (vs : List RV) : OR := match ts, vs with | [t, u], [x, y] => k t u x y | _, _ => .bad
noncomputable def app2 (tt : T RTI) (H : HT) (t u : TypeId) (x y : RV) : OR := match x, y with | .slnil, .int _ (.ofNat n) => growV tt H t u n | _, _ => appendV tt H t u x y
noncomputable def builtinF (tt : T RTI) (b : Builtin) (ts : List TypeId) (vs : List RV) (H : HT) : OR :=
  match b with
  | .len => u_one (fun t x => okV (lenF tt H t x) H) ts vs
  | .append => u_two (app2 tt H) ts vs
  | b => builtinV tt b ts vs H
theorem builtinF_eq (tt : T RTI) (b : Builtin) (ts : List TypeId) (vs : List RV) (H : HT) : builtinF tt b ts vs H = builtinV tt b ts vs H := by
  cases b
  case len =>
    show u_one (fun t x => okV (lenF tt H t x) H) ts vs = _
    simp only [lenF_eq]
    rcases ts with _ | ⟨t, _ | ⟨u, _ | ⟨q, ts⟩⟩⟩ <;> rcases vs with _ | ⟨x, _ | ⟨y, _ | ⟨z, vs⟩⟩⟩ <;> rfl
  case append =>
    show u_two (app2 tt H) ts vs = _
    rcases ts with _ | ⟨t, _ | ⟨u, _ | ⟨q, ts⟩⟩⟩ <;> rcases vs with _ | ⟨x, _ | ⟨y, _ | ⟨z, vs⟩⟩⟩ <;> rfl
  all_goals rfl

/-! ### Operations -/
noncomputable def o_move (x : Operand) (tt : T RTI) (C : Cee) (env : T RV) (H : HT) : OR := okV (ev env x) H
noncomputable def o_assign (x : Operand) (tt : T RTI) (C : Cee) (env : T RV) (H : HT) : OR := okV (ev env x) H
noncomputable def o_pick (c : Operand) (a : Operand) (b : Operand) (tt : T RTI) (C : Cee) (env : T RV) (H : HT) : OR := ev3 env c a b fun c a b => okV (pickV c a b) H
noncomputable def o_alloc (t : TypeId) (tt : T RTI) (C : Cee) (env : T RV) (H : HT) : OR := allocO tt H t
noncomputable def o_box (_u0 : TypeId) (x : Operand) (tt : T RTI) (C : Cee) (env : T RV) (H : HT) : OR := ev1 env x fun v => boxO H v
noncomputable def o_build (t : TypeId) (parts : Array (Nat × Operand)) (tt : T RTI) (C : Cee) (env : T RV) (H : HT) : OR := okV (buildV tt env t parts.toList) H
noncomputable def o_buildSlice (t : TypeId) (len : Nat) (parts : Array (Nat × Operand)) (tt : T RTI) (C : Cee) (env : T RV) (H : HT) : OR := buildSliceV tt env H t len parts.toList
noncomputable def o_insert (t : TypeId) (m : Operand) (k : Operand) (x : Operand) (tt : T RTI) (C : Cee) (env : T RV) (H : HT) : OR := ev3 env m k x fun m k x => mapUpdateV tt H t m k x
noncomputable def o_load (t : TypeId) (x : Operand) (tt : T RTI) (C : Cee) (env : T RV) (H : HT) : OR := ev1 env x fun u => loadO tt H t u
noncomputable def o_store (t : TypeId) (x : Operand) (y : Operand) (tt : T RTI) (C : Cee) (env : T RV) (H : HT) : OR := ev2 env x y fun u v => storeO tt H t u v
def o_ready (_ : Nat) (_ : T RTI) (_ : Cee) (_ : T RV) (_ : HT) : OR := .bad
def o_waits (_ : Nat) (_ : T RTI) (_ : Cee) (_ : T RV) (_ : HT) : OR := .bad
noncomputable def o_nilCheck (x : Operand) (tt : T RTI) (C : Cee) (env : T RV) (H : HT) : OR := ev1 env x fun u => okV (nilV u) H
noncomputable def o_binOp (op : BinOp) (t : TypeId) (x : Operand) (y : Operand) (_u4 : TypeId) (tt : T RTI) (_ : Cee) (env : T RV) (H : HT) : OR := ev2 env x y fun u v => okV (binN tt op t x y u v) H
noncomputable def o_unOp (op : UnOp) (_u1 : TypeId) (x : Operand) (tt : T RTI) (C : Cee) (env : T RV) (H : HT) : OR := ev1 env x fun u => okV (unV op u) H
noncomputable def o_convert (src : TypeId) (dst : TypeId) (x : Operand) (tt : T RTI) (C : Cee) (env : T RV) (H : HT) : OR := ev1 env x fun u => convertF tt H src dst u
def o_sliceToArrayPointer (_ : TypeId) (_ : Operand) (_ : T RTI) (_ : Cee) (_ : T RV) (_ : HT) : OR := .bad
def o_makeInterface (_ : TypeId) (_ : Operand) (_ : T RTI) (_ : Cee) (_ : T RV) (_ : HT) : OR := .bad
noncomputable def o_makeFunc (fn : Fn) (first : (Array Operand)) (captured : (Array Operand)) (tt : T RTI) (C : Cee) (env : T RV) (H : HT) : OR := makeFuncO env H fn first.toList captured.toList
noncomputable def o_makeMap (t : TypeId) (r : (Option Operand)) (tt : T RTI) (C : Cee) (env : T RV) (H : HT) : OR := makeMapR tt env H t r
def o_makeChan (_ : TypeId) (_ : Operand) (_ : T RTI) (_ : Cee) (_ : T RV) (_ : HT) : OR := .bad
noncomputable def o_makeSlice (t : TypeId) (l : Operand) (c : Operand) (tt : T RTI) (C : Cee) (env : T RV) (H : HT) : OR := ev2 env l c fun u v => makeSliceV tt H t u v
noncomputable def o_slice (t : TypeId) (x : Operand) (lo : (Option Operand)) (hi : (Option Operand)) (mx : (Option Operand)) (tt : T RTI) (C : Cee) (env : T RV) (H : HT) : OR := sliceOF tt env H t x lo hi mx
noncomputable def o_fieldAddr (t : TypeId) (x : Operand) (f : Nat) (tt : T RTI) (C : Cee) (env : T RV) (H : HT) : OR := ev1 env x fun u => okV (fieldAddrF tt t u f) H
noncomputable def o_field (t : TypeId) (x : Operand) (f : Nat) (tt : T RTI) (C : Cee) (env : T RV) (H : HT) : OR := ev1 env x fun u => okV (fieldF tt t u f) H
noncomputable def o_indexAddr (t : TypeId) (x : Operand) (i : Operand) (tt : T RTI) (C : Cee) (env : T RV) (H : HT) : OR := ev2 env x i fun u v => okV (indexAddrF tt t u v) H
noncomputable def o_index (t : TypeId) (x : Operand) (i : Operand) (tt : T RTI) (C : Cee) (env : T RV) (H : HT) : OR := ev2 env x i fun u v => okV (indexF tt t u v) H
noncomputable def o_lookup (t : TypeId) (x : Operand) (i : Operand) (ok : Bool) (tt : T RTI) (C : Cee) (env : T RV) (H : HT) : OR := ev2 env x i fun u v => okV (lookupV tt H t u v ok) H
noncomputable def o_mapUpdate (t : TypeId) (m : Operand) (k : Operand) (x : Operand) (tt : T RTI) (C : Cee) (env : T RV) (H : HT) : OR := ev3 env m k x fun m k x => mapUpdateV tt H t m k x
noncomputable def o_mapEntry (t : TypeId) (m : Operand) (k : Operand) (tt : T RTI) (C : Cee) (env : T RV) (H : HT) : OR := ev2 env m k fun m k => mapEntryV tt H t m k
noncomputable def o_entryStore (_u0 : TypeId) (m : Operand) (k : Operand) (x : Operand) (tt : T RTI) (C : Cee) (env : T RV) (H : HT) : OR := ev3 env m k x fun m k x => entryStoreV H m k x
noncomputable def o_range (t : TypeId) (x : Operand) (tt : T RTI) (_ : Cee) (env : T RV) (H : HT) : OR := ev1 env x fun u => rangeV tt H t u
noncomputable def o_next (x : Operand) (s : Bool) (_ : T RTI) (_ : Cee) (env : T RV) (H : HT) : OR := ev1 env x fun u => nextV H u s
noncomputable def o_entry (x : Operand) (_ : T RTI) (_ : Cee) (env : T RV) (H : HT) : OR := ev1 env x fun u => okV (entryV H u) H
def o_typeAssert (_ : Operand) (_ : TypeId) (_ : TypeId) (_ : Bool) (_ : T RTI) (_ : Cee) (_ : T RV) (_ : HT) : OR := .bad
noncomputable def o_extract (x : Operand) (i : Nat) (tt : T RTI) (C : Cee) (env : T RV) (H : HT) : OR := ev1 env x fun u => okV (extractV u i) H
noncomputable def o_call (c : Call) (tt : T RTI) (C : Cee) (env : T RV) (H : HT) : OR := match c.callee with
      | .builtin b => onOpt (evs env c.args.toList) .bad fun vs => builtinF tt b c.argTypes.toList vs H
      | .value f => callV C env f c.args.toList H
      | _ => .bad
def o_go (_ : Call) (_ : T RTI) (_ : Cee) (_ : T RV) (_ : HT) : OR := .bad
def o_defer (_ : Call) (_ : T RTI) (_ : Cee) (_ : T RV) (_ : HT) : OR := .bad
def o_panic (_ : Operand) (_ : T RTI) (_ : Cee) (_ : T RV) (_ : HT) : OR := .bad
def o_send (_ : Operand) (_ : Operand) (_ : T RTI) (_ : Cee) (_ : T RV) (_ : HT) : OR := .bad
def o_recv (_ : TypeId) (_ : Operand) (_ : Bool) (_ : T RTI) (_ : Cee) (_ : T RV) (_ : HT) : OR := .bad
def o_select (_ : (Array SelectCase)) (_ : Bool) (_ : T RTI) (_ : Cee) (_ : T RV) (_ : HT) : OR := .bad
noncomputable def opF (tt : T RTI) (C : Cee) (env : T RV) (H : HT) (op : Op) : OR :=
  @Op.rec (fun _ => T RTI → Cee → T RV → HT → OR) o_move o_assign o_pick o_alloc o_box o_build o_buildSlice o_insert o_load o_store o_ready o_waits o_nilCheck o_binOp o_unOp o_convert o_sliceToArrayPointer o_makeInterface o_makeFunc o_makeMap o_makeChan o_makeSlice o_slice o_fieldAddr o_field o_indexAddr o_index o_lookup o_mapUpdate o_mapEntry o_entryStore o_range o_next o_entry o_typeAssert o_extract o_call o_go o_defer o_panic o_send o_recv o_select op tt C env H
theorem opF_eq (tt : T RTI) (C : Cee) (env : T RV) (H : HT) (op : Op) : opF tt C env H op = opV tt C env H op := by
  cases op
  case binOp op t x y yt => rfl
  case convert s d x => show ev1 env x (fun u => convertF tt H s d u) = ev1 env x fun u => convertV tt H s d u; simp only [convertF_eq]
  case fieldAddr t x f => show ev1 env x (fun u => okV (fieldAddrF tt t u f) H) = ev1 env x fun u => okV (fieldAddrV tt t u f) H; simp only [fieldAddrF_eq]
  case field t x f => show ev1 env x (fun u => okV (fieldF tt t u f) H) = ev1 env x fun u => okV (fieldV tt t u f) H; simp only [fieldF_eq]
  case indexAddr t x i => show ev2 env x i (fun u v => okV (indexAddrF tt t u v) H) = ev2 env x i fun u v => okV (indexAddrV tt t u v) H; simp only [indexAddrF_eq]
  case index t x i => show ev2 env x i (fun u v => okV (indexF tt t u v) H) = ev2 env x i fun u v => okV (indexV tt t u v) H; simp only [indexF_eq]
  case slice t x lo hi mx => exact sliceOF_eq
  case call c =>
    obtain ⟨ce, args, ts⟩ := c
    cases ce with
    | builtin b => show onOpt (evs env args.toList) .bad (fun vs => builtinF tt b ts.toList vs H) = onOpt (evs env args.toList) .bad fun vs => builtinV tt b ts.toList vs H; simp only [builtinF_eq]
    | value f => rfl
    | invoke r m => rfl
  all_goals rfl

/-! ### Regions -/
section
variable (tt : T RTI) (C : Cee) (n : Nat)
noncomputable def wantF (ops : List Oper) (env : T RV) (j : Nat) (want : Bool) : Option Bool :=
  onOpt (nthL ops j) none fun oj => onOpt oj.dst none fun t => onOpt (env.get t) none fun v => match v with
    | .bool b => some (ifB b want (ifB want false true))
    | .undef => some false
    | _ => none
noncomputable def putF (env : T RV) (dst : Option Tmp) (v : RV) (k : T RV → Out) : Out :=
  @Option.rec Tmp (fun _ => Out) (k env) (fun t => ifB (Nat.blt t n) (T.setK env t v k) .bad) dst
noncomputable def doF (o : Oper) (env : T RV) (H : HT) (k : T RV → HT → Out) : Out :=
  @OR.rec (fun _ => Out) (fun v H => putF n env o.dst v fun env => k env H) .bad (opF tt C env H o.op)
noncomputable def stepF (ops : List Oper) (o : Oper) (k : T RV → HT → Out) (env : T RV) (H : HT) : Out :=
  @Option.rec (Nat × Bool) (fun _ => Out) (doF tt C n o env H k)
    (fun g => onOpt (wantF ops env g.1 g.2) .bad fun b => ifB b (doF tt C n o env H k) (putF n env o.dst .undef fun env => k env H)) o.guard
noncomputable def opsF (ops rest : List Oper) : T RV → HT → Out :=
  @List.rec Oper (fun _ => T RV → HT → Out) (fun env H => .nrm env H) (fun o _ ih => stepF tt C n ops o ih) rest
end

section
variable {tt : T RTI} {C : Cee} {n : Nat}
theorem putF_eq (env : T RV) (dst : Option Tmp) (v : RV) (k : T RV → Out) : putF n env dst v k = putV n env dst v .bad k := by cases dst <;> rfl
theorem opsF_eq (ops : List Oper) : ∀ (rest : List Oper) (env : T RV) (H : HT), opsF tt C n ops rest env H = opsV tt C n ops rest env H
  | [], env, H => rfl
  | o :: r, env, H => by
    have ih : opsF tt C n ops r = opsV tt C n ops r := by funext env H; exact opsF_eq ops r env H
    have h : opsF tt C n ops (o :: r) env H = stepF tt C n ops o (opsF tt C n ops r) env H := rfl
    rw [h, ih]
    simp only [opsV]
    have hdo : doF tt C n o env H (opsV tt C n ops r) = (match opV tt C env H o.op with
      | .ok v H => putV n env o.dst v .bad fun env => opsV tt C n ops r env H
      | .bad => .bad) := by
      unfold doF
      rw [opF_eq]
      cases opV tt C env H o.op with
      | ok v H1 => exact putF_eq env o.dst v _
      | bad => rfl
    unfold stepF wantV
    cases hg : o.guard with
    | none =>
      simp only [onOpt_some, ifB_true]
      exact hdo
    | some g =>
      obtain ⟨j, want⟩ := g
      simp only
      show onOpt (wantF ops env j want) Out.bad _ = _
      unfold wantF
      cases nthL ops j with
      | none => rfl
      | some oj =>
        simp only [onOpt_some]
        cases oj.dst with
        | none => rfl
        | some t =>
          simp only [onOpt_some]
          cases env.get t with
          | none => rfl
          | some v =>
            simp only [onOpt_some]
            cases v
            case bool b => simp only [onOpt_some]; rw [hdo, putF_eq] <;> rfl
            case undef => simp only [onOpt_some]; rw [hdo, putF_eq] <;> rfl
            all_goals rfl

/-! ### Drawn regions that are as the others -/
noncomputable def nilL {α : Type} (l : List α) : Bool := match l with | [] => true | _ => false
noncomputable def plainD (tt : T RTI) (ops : List Oper) : Bool := ifB (drawOk tt ops) (ifB (nilL (pairsD tt ops)) (ops.all fun o => !Nat.beq (cls tt o) 2) false) false

theorem preV_plain {tt : T RTI} : ∀ {rest : List Oper} {H : HT}, rest.all (fun o => !Nat.beq (cls tt o) 2) = true → preV tt rest H = some (rest.map fun _ => 0, H)
  | [], H, _ => rfl
  | o :: r, H, h => by
    simp only [List.all_cons, Bool.and_eq_true, Bool.not_eq_true'] at h
    simp only [preV, h.1, ifB_false]
    rw [preV_plain h.2]; rfl

theorem runD_plain {ops : List Oper} : ∀ {rest : List Oper} {ids : List Nat} {env : T RV} {H : HT}, rest.all (fun o => !Nat.beq (cls tt o) 2) = true → ids.length = rest.length →
    (∃ env' H' Ms, opsV tt C n ops rest env H = .nrm env' H' ∧ runD tt C n ops rest ids env H = .ok env' Ms ∧ Ms[kS tt rest rest.length]? = some H') ∨ (opsV tt C n ops rest env H = .bad ∧ runD tt C n ops rest ids env H = .bad)
  | [], ids, env, H, _, _ => .inl ⟨env, H, [H], rfl, rfl, rfl⟩
  | o :: r, [], env, H, _, hl => by simp at hl
  | o :: r, id :: ids, env, H, hc, hl => by
    simp only [List.all_cons, Bool.and_eq_true, Bool.not_eq_true'] at hc
    have hl : ids.length = r.length := by simpa using hl
    simp only [opsV, runD, hc.1, ifB_false]
    cases hw : wantV ops env o with
    | none => exact .inr ⟨rfl, rfl⟩
    | some b =>
      simp only [onOpt_some]
      have fin : ∀ (env1 : T RV) (H1 : HT), (isS tt o = false → H1 = H) → (∃ env' H' Ms, opsV tt C n ops r env1 H1 = .nrm env' H' ∧ consM H (isS tt o) (runD tt C n ops r ids env1 H1) = .ok env' Ms ∧ Ms[kS tt (o :: r) (o :: r).length]? = some H') ∨
          (opsV tt C n ops r env1 H1 = .bad ∧ consM H (isS tt o) (runD tt C n ops r ids env1 H1) = .bad) := by
        intro env1 H1 hs
        rcases runD_plain (ops := ops) (rest := r) (ids := ids) (env := env1) (H := H1) hc.2 hl with ⟨env', H', Ms, h1, h2, h3⟩ | ⟨h1, h2⟩
        · refine .inl ⟨env', H', if isS tt o = true then H :: Ms else Ms, h1, ?_, ?_⟩
          · rw [h2]; simp only [consM, ifB_eq]
          · rw [List.length_cons, kS_cons]
            by_cases h : isS tt o = true
            · rw [if_pos h, if_pos h, List.getElem?_cons_succ]; exact h3
            · rw [if_neg h, if_neg h]; exact h3
        · exact .inr ⟨h1, by rw [h2]; rfl⟩
      have lay : ∀ (v : RV) (H1 : HT), (isS tt o = false → H1 = H) → (∃ env' H' Ms, (putV n env o.dst v Out.bad fun env => opsV tt C n ops r env H1) = .nrm env' H' ∧ (putV n env o.dst v DOut.bad fun env => consM H (isS tt o) (runD tt C n ops r ids env H1)) = .ok env' Ms ∧ Ms[kS tt (o :: r) (o :: r).length]? = some H') ∨
          ((putV n env o.dst v Out.bad fun env => opsV tt C n ops r env H1) = .bad ∧ (putV n env o.dst v DOut.bad fun env => consM H (isS tt o) (runD tt C n ops r ids env H1)) = .bad) := by
        intro v H1 hs
        unfold putV
        cases o.dst with
        | none => exact fin env H1 hs
        | some t =>
          simp only
          rw [ifB_eq, ifB_eq]
          split
          · rw [T.setK_put, T.setK_put]
            exact fin _ H1 hs
          · exact .inr ⟨rfl, rfl⟩
      cases b with
      | true =>
        simp only [ifB_true]
        cases ho : opV tt C env H o.op with
        | bad => exact .inr ⟨rfl, rfl⟩
        | ok v H1 =>
          refine lay v H1 fun h => ?_
          have h2 : cls tt o ≠ 3 := fun h3 => by rw [isS_iff.2 h3] at h; simp at h
          have h4 : cls tt o ≠ 2 := fun h5 => by rw [h5] at hc; simp at hc
          have := cls_le (tt := tt) o
          exact cls_read (by omega) ho
      | false =>
        simp only [ifB_false]
        exact lay .undef H fun _ => rfl

theorem plainD_eq {ops : List Oper} (h : plainD tt ops = true) (env : T RV) (H : HT) : drawV tt C n ops env H = opsV tt C n ops ops env H := by
  unfold plainD at h
  rw [ifB_and, ifB_and] at h
  obtain ⟨h1, h2, h3⟩ := h
  have h2 : pairsD tt ops = [] := by
    cases hp : pairsD tt ops with
    | nil => rfl
    | cons a l => rw [hp] at h2; simp [nilL] at h2
  unfold drawV
  rw [h1, ifB_true, preV_plain h3, onOpt_some]
  rcases runD_plain (tt := tt) (C := C) (n := n) (ops := ops) (rest := ops) (ids := ops.map fun _ => 0) (env := env) (H := H) h3 (by simp) with ⟨env', H', Ms, e1, e2, e3⟩ | ⟨e1, e2⟩
  · simp only [e2, h2, chkD, ifB_true]
    rw [nthL_eq, e3, onOpt_some, e1]
  · simp only [e2, e1]
noncomputable def regF (tt : T RTI) (C : Cee) (n : Nat) (ops : List Oper) (draw : Bool) (env : T RV) (H : HT) : Out :=
  ifB draw (ifB (plainD tt ops) (opsF tt C n ops ops env H) (drawV tt C n ops env H)) (opsF tt C n ops ops env H)
theorem regF_eq (ops : List Oper) (draw : Bool) (env : T RV) (H : HT) : regF tt C n ops draw env H = ifB draw (drawV tt C n ops env H) (opsV tt C n ops ops env H) := by
  unfold regF
  rw [opsF_eq]
  cases draw with
  | false => rfl
  | true =>
    simp only [ifB_true]
    cases hp : plainD tt ops with
    | false => rfl
    | true => rw [ifB_true, plainD_eq hp]
end

/-! ### Code, functions -/
noncomputable def thenF (o : Out) (k : T RV → HT → Out) : Out := match o with | .nrm env H => k env H | .ext id env H => .ext id env H | .ret env H => .ret env H | .bad => .bad
noncomputable def condF (v : RV) (x y : Out) : Out := match v with | .bool t => ifB t x y | _ => .bad
noncomputable def blockF (id : Nat) (o : Out) : Out := match o with | .nrm env H => .nrm env H | .ext j env H => ifB (Nat.beq j id) (.nrm env H) (.ext j env H) | .ret env H => .ret env H | .bad => .bad
noncomputable def r_skip (_ : T RTI) (_ : Cee) (_ : Nat) (_ : Nat) (env : T RV) (H : HT) : Out := .nrm env H
noncomputable def r_region (_ : Nat) (ops : Array Oper) (draw : Bool) (tt : T RTI) (C : Cee) (n : Nat) (_ : Nat) (env : T RV) (H : HT) : Out := regF tt C n ops.toList draw env H
noncomputable def r_seq (_ _ : Code) (ra rb : T RTI → Cee → Nat → Nat → T RV → HT → Out) (tt : T RTI) (C : Cee) (n big : Nat) (env : T RV) (H : HT) : Out := thenF (ra tt C n big env H) fun env H => rb tt C n big env H
noncomputable def r_cond (c : Operand) (_ _ : Code) (ra rb : T RTI → Cee → Nat → Nat → T RV → HT → Out) (tt : T RTI) (C : Cee) (n big : Nat) (env : T RV) (H : HT) : Out := onOpt (ev env c) .bad fun v => condF v (ra tt C n big env H) (rb tt C n big env H)
noncomputable def r_block (id : Nat) (_ : Code) (rb : T RTI → Cee → Nat → Nat → T RV → HT → Out) (tt : T RTI) (C : Cee) (n big : Nat) (env : T RV) (H : HT) : Out := blockF id (rb tt C n big env H)
noncomputable def loopG (f : T RV → HT → Out) (k : Nat) : T RV → HT → Out :=
  @Nat.rec (fun _ => T RV → HT → Out) (fun _ _ => .bad) (fun _ ih env H => thenF (f env H) ih) k
noncomputable def r_loop (_ : Code) (rb : T RTI → Cee → Nat → Nat → T RV → HT → Out) (tt : T RTI) (C : Cee) (n big : Nat) (env : T RV) (H : HT) : Out := loopG (rb tt C n big) big env H
noncomputable def r_exit (id : Nat) (_ : T RTI) (_ : Cee) (_ _ : Nat) (env : T RV) (H : HT) : Out := .ext id env H
noncomputable def r_ret (_ : T RTI) (_ : Cee) (_ _ : Nat) (env : T RV) (H : HT) : Out := .ret env H
noncomputable def runF (c : Code) : T RTI → Cee → Nat → Nat → T RV → HT → Out :=
  @Code.rec (fun _ => T RTI → Cee → Nat → Nat → T RV → HT → Out) r_skip r_region r_seq r_cond r_block r_loop
    (fun _ _ _ _ _ _ _ _ _ _ _ _ => .bad) r_exit (fun _ _ _ _ _ _ _ _ => .bad) (fun _ => r_skip) (fun _ _ _ _ _ _ _ => .bad) r_ret (fun _ _ _ _ _ _ _ => .bad) c
theorem loopG_eq (f : T RV → HT → Out) : ∀ (k : Nat), loopG f k = loopF f k
  | 0 => rfl
  | k + 1 => by
    funext env H
    show thenF (f env H) (loopG f k) = (match f env H with | .nrm env H => loopF f k env H | .ext id env H => .ext id env H | .ret env H => .ret env H | .bad => .bad)
    rw [loopG_eq f k]; rfl
theorem runF_eq (tt : T RTI) (C : Cee) (n big : Nat) : ∀ (c : Code), runF c tt C n big = runC tt C n big c := by
  intro c
  induction c with
  | region id ops draw => funext env H; exact regF_eq ops.toList draw env H
  | seq x y ihx ihy =>
    funext env H
    show thenF (runF x tt C n big env H) (fun env H => runF y tt C n big env H) = (match runC tt C n big x env H with | .nrm env H => runC tt C n big y env H | .ext id env H => .ext id env H | .ret env H => .ret env H | .bad => .bad)
    rw [ihx, ihy]; rfl
  | cond c x y ihx ihy =>
    funext env H
    show onOpt (ev env c) .bad (fun v => condF v (runF x tt C n big env H) (runF y tt C n big env H)) = onOpt (ev env c) .bad (fun v => match v with | .bool t => ifB t (runC tt C n big x env H) (runC tt C n big y env H) | _ => .bad)
    rw [ihx, ihy]; rfl
  | block id b ih =>
    funext env H
    show blockF id (runF b tt C n big env H) = (match runC tt C n big b env H with | .nrm env H => .nrm env H | .ext j env H => ifB (Nat.beq j id) (.nrm env H) (.ext j env H) | .ret env H => .ret env H | .bad => .bad)
    rw [ih]; rfl
  | loop b ih =>
    funext env H
    show loopG (runF b tt C n big) big env H = loopF (runC tt C n big b) big env H
    rw [ih, loopG_eq]
  | _ => rfl

noncomputable def endF (tt : T RTI) (res : List ResultVar) (o : Out) : OR := match o with | .nrm env H => resV tt res env H | .ret env H => resV tt res env H | _ => .bad
noncomputable def feF (tt : T RTI) (big : Nat) (C : Cee) (fe : FE) (args : List RV) (H : HT) : OR :=
  match fe with
  | .code n res c => forceN (lenL args) fun k => ifB (Nat.ble k n) (setsK args .e 0 fun env => endF tt res (runF c tt C n big env H)) .bad
  | .same => sameV args H
  | .known b => knownV b args H
  | .pure g => okV (g args) H
  | .room e => roomV e args H
noncomputable def funX (tt : T RTI) (ft : T FE) (big : Nat) (d : Nat) : Cee :=
  @Nat.rec (fun _ => Cee) (fun _ _ _ => .bad) (fun _ C f args H => onOpt (ft.get f) .bad fun fe => feF tt big C fe args H) d
theorem funX_eq (tt : T RTI) (ft : T FE) (big : Nat) : ∀ d, funX tt ft big d = funF tt ft big d
  | 0 => rfl
  | d + 1 => by
    have ih := funX_eq tt ft big d
    funext f args H
    show onOpt (ft.get f) .bad (fun fe => feF tt big (funX tt ft big d) fe args H) = onOpt (ft.get f) .bad _
    rw [ih]
    congr 1
    funext fe
    cases fe with
    | code n res c =>
      show forceN (lenL args) (fun k => ifB (Nat.ble k n) (setsK args .e 0 fun env => endF tt res (runF c tt (funF tt ft big d) n big env H)) .bad) = _
      simp only [runF_eq]
      rfl
    | _ => rfl
end Go.Rx
