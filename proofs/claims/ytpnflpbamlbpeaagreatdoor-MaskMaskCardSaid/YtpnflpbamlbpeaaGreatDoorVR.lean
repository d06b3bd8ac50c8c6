import Derived.Test.YtpnflpbamlbpeaaGreatDoorS2
set_option linter.unusedSimpArgs false
set_option linter.unusedVariables false
set_option linter.unusedSectionVars false
set_option maxRecDepth 100000
namespace Go.Fbs
def iterR (F : (List V → Option V) → List V → Option V) : Nat → List V → Option V
 | 0,_=>none
 | n + 1,vs=>F (iterR F n) vs
def L.run (p : PT) (fu : Nat) : L → Nat → (Nat → V) → List (List V → Option V) → Option V
 | .bind e g k,n,ρ,ks=>(bindG p ρ e g).bind fun y=>k.run p fu (n + 1) (ext ρ n y) ks
 | .ite c t e,n,ρ,ks=>match c.den ρ with | .bool b=>bif b then t.run p fu n ρ ks else e.run p fu n ρ ks | _=>none
 | .ret a,_,ρ,_=>some (a.den ρ)
 | .rets l,_,ρ,_=>some (.tup (l.map (A.den ρ)))
 | .join m body k,n,ρ,ks=>body.run p fu n ρ ((fun vs=>bif vs.length == m then k.run p fu (n + m) (exts ρ n vs) ks else none) :: ks)
 | .loop init body,n,ρ,ks=>iterR (fun r vs=>bif vs.length == init.length then body.run p fu (n + init.length) (exts ρ n vs) (r :: ks) else none) fu (init.map (A.den ρ))
 | .jmp d l,_,ρ,ks=>match ks[d]? with | some k=>k (l.map (A.den ρ)) | none=>none
def Goes (v : V) (ks : List (List V → Option V)) (ks' : List (List V → Prop)) : Prop:=∀ (d : Nat) (k : List V → Option V),ks[d]? = some k → ∃ k' : List V → Prop,ks'[d]? = some k' ∧ ∀ vs,k vs = some v → k' vs
theorem Goes.cons {v : V} {ks : List (List V → Option V)} {ks' : List (List V → Prop)} (h : Goes v ks ks') {k : List V → Option V} {k' : List V → Prop} (hk : ∀ vs,k vs = some v → k' vs) : Goes v (k :: ks) (k' :: ks'):=by
 intro d x hx
 match d,hx with
 | 0,hx=>cases hx; exact ⟨k',rfl,hk⟩
 | d + 1,hx=>exact h d x hx
theorem L.run_wp {p : PT} {fu : Nat} {v : V} {Q : V → Prop} (hQ : Q v) : ∀ (l : L) (n : Nat) (ρ : Nat → V) (ks : List (List V → Option V)) (ks' : List (List V → Prop)),Goes v ks ks' → l.run p fu n ρ ks = some v → l.wp p Q n ρ ks'
 | .bind e g k,n,ρ,ks,ks',hg,h=>by
  simp only [L.run,Option.bind_eq_some_iff] at h
  obtain ⟨y,hy,h⟩:=h
  show opt (bindG p ρ e g) _
  rw [hy]
  exact L.run_wp hQ k _ _ _ _ hg h
 | .ite c t e,n,ρ,ks,ks',hg,h=>by
  simp only [L.run] at h
  show iteB (c.den ρ) _ _
  cases hc : c.den ρ <;> rw [hc] at h <;> try (cases h)
  rename_i b
  cases b
  ·exact L.run_wp hQ e _ _ _ _ hg h
  ·exact L.run_wp hQ t _ _ _ _ hg h
 | .ret a,n,ρ,ks,ks',hg,h=>by
  simp only [L.run,Option.some.injEq] at h
  show Q _
  rw [h]; exact hQ
 | .rets l,n,ρ,ks,ks',hg,h=>by
  simp only [L.run,Option.some.injEq] at h
  show Q _
  rw [h]; exact hQ
 | .join m body k,n,ρ,ks,ks',hg,h=>by
  simp only [L.run] at h
  refine L.run_wp hQ body _ _ _ _ (hg.cons fun vs hv=>?_) h
  cases hl : vs.length == m
  ·rw [hl] at hv; cases hv
  ·rw [hl] at hv
   exact ⟨by simpa using hl,L.run_wp hQ k _ _ _ _ hg hv⟩
 | .loop init body,n,ρ,ks,ks',hg,h=>by
  simp only [L.run] at h
  refine ⟨fu,?_⟩
  have key : ∀ m vs,iterR (fun r vs=>bif vs.length == init.length then body.run p fu (n + init.length) (exts ρ n vs) (r :: ks) else none) m vs = some v →
    iterP (fun r vs=>vs.length = init.length ∧ body.wp p Q (n + init.length) (exts ρ n vs) (r :: ks')) m vs:=by
   intro m
   induction m with
   | zero=>intro vs hv; cases hv
   | succ m ih =>
    intro vs hv
    simp only [iterR] at hv
    cases hl : vs.length == init.length
    ·rw [hl] at hv; cases hv
    ·rw [hl] at hv
     exact ⟨by simpa using hl,L.run_wp hQ body _ _ _ _ (hg.cons ih) hv⟩
  exact key _ _ h
 | .jmp d l,n,ρ,ks,ks',hg,h=>by
  simp only [L.run] at h
  cases hk : ks[d]? with
  | none=>rw [hk] at h; cases h
  | some k =>
   rw [hk] at h
   obtain ⟨k',h1,h2⟩:=hg d k hk
   unfold L.wp
   rw [h1]
   exact h2 _ h
def FunRun (tt : TT) (p : PT) (N : Nat) (orc : List (OK × Vars)) (rs : List ResultVar) (c : Code) (fu na : Nat) (args : List V) : Option V :=
 match funX tt N orc rs na c with
 | some L=>bif args.length == na then L.run p fu na (args0 args) [] else none
 | none=>none
theorem fun_run {tt : TT} {p : PT} {N : Nat} {orc : List (OK × Vars)} {rs : List ResultVar} {c : Code} {fu na : Nat} {args : List V} {v : V} (h : FunRun tt p N orc rs c fu na args = some v) : FunWp tt p N orc rs c args (fun r=>r = v):=by
 unfold FunRun at h
 unfold FunWp
 cases hx : funX tt N orc rs na c with
 | none=>rw [hx] at h; cases h
 | some l0 =>
  rw [hx] at h
  dsimp only at h
  cases hl : args.length == na with
  | false=>rw [hl] at h; cases h
  | true =>
   rw [hl] at h
   obtain rfl : args.length = na:=by simpa using hl
   rw [hx]
   exact L.run_wp (Q:=fun r=>r = v) rfl l0 _ _ [] [] (fun d k hk=>by simp at hk) h
end Go.Fbs
