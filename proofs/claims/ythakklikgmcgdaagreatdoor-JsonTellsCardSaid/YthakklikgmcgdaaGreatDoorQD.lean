import Derived.Test.YthakklikgmcgdaaGreatDoorR3
import Derived.Test.YthakklikgmcgdaaGreatDoorS3
set_option linter.unusedSimpArgs false
set_option linter.unusedVariables false
set_option linter.unusedSectionVars false
set_option maxRecDepth 100000
namespace Go.Fbs
theorem a1g {κ κ':Ctx} {h h':Heap} (hb:∀ b i y,i < κ.hw b→aW h b i=some y→i < κ'.hw b∧aW h' b i=some y) {v:V} {x:Value} (r:Rep κ h v x) (hp:v.plain=true):Rep κ' h' v x:=by
 have hb:∀ {b off:Nat} {xs:List Value},Block κ h b off xs→Block κ' h' b off xs:=fun hx i y hy=>let ⟨h1,h2,h3⟩:=hx i y hy; let ⟨g1,g2⟩:=hb _ _ _ h1 h2; ⟨g1,g2,h3⟩
 induction r with
 | bool b=>exact .bool b
 | int k n=>exact .int k n
 | str s=>exact .str s
 | ptr l off b _=>simp [V.plain] at hp
 | ro cs b off xs hx hl _ ih =>
  simp only [V.plain] at hp
  exact .ro cs b off xs (hb hx) hl (fun i c x h1 h2=>ih i c x h1 h2 (bS.1 hp c (List.mem_of_getElem? h1)))
 | nilp=>exact .nilp
 | slnil g hg =>
  cases g with
  | own i=>simp [V.plain] at hp
  | ro=>exact .slnil _ (by simp)
  | full=>exact .slnil _ (by simp)
 | sl g es b off cap sz xs hx hu hl _ hc ht ih =>
  cases g with
  | own i=>simp [V.plain] at hp
  | ro =>
   simp only [V.plain] at hp
   exact .sl .ro es b off cap sz xs (hb hx) hu hl (fun i c x h1 h2=>ih i c x h1 h2 (xQ hp c (List.mem_of_getElem? h1))) hc trivial
  | full =>
   simp only [V.plain] at hp
   exact .sl .full es b off cap sz xs (hb hx) hu hl (fun i c x h1 h2=>ih i c x h1 h2 (xQ hp c (List.mem_of_getElem? h1))) hc ht
 | mapnil=>exact .mapnil
 | map l b _=>simp [V.plain] at hp
 | xO l off n c b cap _ _ _=>simp [V.plain] at hp
 | func f caps xs hl _ ih =>
  simp only [V.plain] at hp
  exact .func f caps xs hl (fun i c x h1 h2=>ih i c x h1 h2 (bS.1 hp c (List.mem_of_getElem? h1)))
 | agg cs xs hl ho _ ih =>
  simp only [V.plain] at hp
  exact .agg cs xs hl ho (fun i c x h1 h2=>ih i c x h1 h2 (bS.1 hp c (List.mem_of_getElem? h1)))
 | tup cs xs hl _ ih =>
  simp only [V.plain] at hp
  exact .tup cs xs hl (fun i c x h1 h2=>ih i c x h1 h2 (bS.1 hp c (List.mem_of_getElem? h1)))
 | undef=>exact .undef
 | any x=>exact .any x
theorem qM {κ κ':Ctx} {h h':Heap} (hb:∀ b i y,i < κ.hw b→aW h b i=some y→i < κ'.hw b∧aW h' b i=some y) {vs:List V} {xs:List Value} (r:Reps κ h vs xs) (hp:∀ v ∈ vs,v.plain=true):Reps κ' h' vs xs :=
 ⟨r.1,fun i c x h1 h2=>a1g hb (r.2 i c x h1 h2) (hp c (List.mem_of_getElem? h1))⟩
def rX (κ : Ctx) (n : Nat) (h : Heap) (G : Nat → Bool) : Ctx:=⟨fun b=>if b < n then κ.hw b else if G b = true then 0 else match h[b]? with | some (.cells c _ _)=>c.size | _=>0,fun _=>none,[]⟩
theorem a8f {h : Heap} {b i : Nat} {y : Value} (e : aW h b i = some y) : ∃ c E fr,h[b]? = some (.cells c E fr) ∧ i < c.size:=by
 unfold aW at e
 split at e
 ·rename_i c E fr hh
  exact ⟨c,E,fr,hh,(Array.getElem?_eq_some_iff.1 e).1⟩
 ·cases e
theorem mL {κ:Ctx} {n:Nat} {h:Heap} {G:Nat→Bool} {b i:Nat} {y:Value} (hb:n≤b) (hG:G b=false) (e:aW h b i=some y):i < (rX κ n h G).hw b:=by
 obtain ⟨c,E,fr,h1,h2⟩:=a8f e
 show i < if b < n then κ.hw b else if G b = true then 0 else match h[b]? with | some (.cells c _ _)=>c.size | _=>0
 rw [if_neg (by omega),hG,h1]
 exact h2
theorem uK {κ:Ctx} {n:Nat} {h:Heap} {G:Nat→Bool} {b:Nat} (hb:b < n):(rX κ n h G).hw b=κ.hw b:=if_pos hb
theorem aAw {κ:Ctx} {n:Nat} {h:Heap} {G:Nat→Bool} {b:Nat} (hb:n≤b) (hG:G b=true):(rX κ n h G).hw b=0:=by
 show (if b < n then κ.hw b else if G b=true then 0 else _)=0
 rw [if_neg (by omega),if_pos hG]
end Go.Fbs
