import Derived.Test.YtnmcilaebamncaaLS
import Derived.Test.YtnmcilaebamncaaS2
namespace Go.Fbs
open Go.Proofs
abbrev Pce:=List UInt8 × Int
def pceV (q : Pce) : V:=.agg [.str q.1,vI q.2]
def heldM (q : Pce) (least : Int) : List UInt8:=if q.2 < least then 40 :: (q.1 ++ [41]) else q.1
def jointM (a b : Pce) (kind : Int) : Pce :=
 if kind = 3 then (heldM a 1 ++ [32,43,32] ++ heldM b 2,1) else
 if kind = 4 then (heldM a 1 ++ [32,45,32] ++ heldM b 2,1) else (heldM a 2 ++ [32,38,32] ++ heldM b 3,2)
theorem held_len (q : Pce) (l : Int) : (heldM q l).length ≤ q.1.length + 2:=by
 unfold heldM
 split <;> simp
theorem joint_len (a b : Pce) (k : Int) : (jointM a b k).1.length ≤ a.1.length + b.1.length + 7:=by
 have h1:=held_len a 1; have h2:=held_len a 2; have h3:=held_len b 2; have h4:=held_len b 3
 unfold jointM
 split
 ·simp; omega
 ·split <;> (simp; omega)
def F_sche_piece_held : Spec
 | [.agg [.str s,.int .i64 b],.int .i64 l]=>if s.length ≤ 1125899906842624 then some (.str (heldM (s,b) l)) else none
 | _=>none
theorem addT3 {a m b : List UInt8} (h : a.length + m.length + b.length ≤ 9223372036854775807) {Q : V → Prop} :
  (opt (binK .add (.str a) (.str m)) fun y=>opt (binK .add y (.str b)) fun z=>Q z) = Q (.str (a ++ m ++ b)):=by
 rw [bSadd _ _ (by omega),opt_s,bSadd _ _ (by simp; omega),opt_s]
theorem ok_sche_piece_held : SpecL Try.prog n_sche_piece_held F_sche_piece_held:=by
 refine go_sche_piece_held (T:=[]) (TabOk.nil) fun args v hv=>?_
 unfold F_sche_piece_held at hv
 split at hv <;> (try simp only [Option.ite_none_right_eq_some,Option.some.injEq,reduceCtorEq] at hv)
 rename_i s b l
 obtain ⟨hs,rfl⟩:=hv
 refine ⟨rfl,rfl,rfl,?_⟩
 rw [e_sche_piece_held]
 have e1 : ([40] : List UInt8).length + s.length + ([41] : List UInt8).length ≤ 9223372036854775807:=by simp; omega
 by_cases h : b < l
 ·simp [sS,if_true,if_false,reduceCtorEq,chkK,sc,cellD,V.cells,heldM,h]
  rw [addT3 e1]; rfl
 ·simp [sS,if_true,if_false,reduceCtorEq,chkK,sc,cellD,V.cells,heldM,h]
def F_sche_joint : Spec
 | [.agg [.str s,.int .i64 b],.agg [.str t,.int .i64 c],.int .i64 k]=>if s.length ≤ 1125899906842000 ∧ t.length ≤ 1125899906842000 then some (pceV (jointM (s,b) (t,c) k)) else none
 | _=>none
theorem ok_sche_joint : SpecL Try.prog n_sche_joint F_sche_joint:=by
 refine go_sche_joint (T:=[(n_sche_piece_held,F_sche_piece_held)]) (TabOk.cons ok_sche_piece_held TabOk.nil) fun args v hv=>?_
 have c_sche_piece_held : ∀ args,tab [(n_sche_piece_held,F_sche_piece_held)] n_sche_piece_held args = F_sche_piece_held args:=fun _=>rfl
 unfold F_sche_joint at hv
 split at hv <;> (try simp only [Option.ite_none_right_eq_some,Option.some.injEq,reduceCtorEq] at hv)
 rename_i s b t c k
 obtain ⟨⟨hs,ht⟩,rfl⟩:=hv
 refine ⟨rfl,rfl,rfl,?_⟩
 have f1 : ∀ l,F_sche_piece_held [.agg [.str s,.int .i64 b],.int .i64 l] = some (.str (heldM (s,b) l)):=fun l=>if_pos (by omega)
 have f2 : ∀ l,F_sche_piece_held [.agg [.str t,.int .i64 c],.int .i64 l] = some (.str (heldM (t,c) l)):=fun l=>if_pos (by omega)
 have e0 : ∀ (l l' : Int) (m : List UInt8),m.length = 3 → (heldM (s,b) l).length + m.length + (heldM (t,c) l').length ≤ 9223372036854775807:=fun l l' m hm=>by
  have h1:=held_len (s,b) l
  have h2:=held_len (t,c) l'
  simp only at h1 h2
  omega
 have g : ∀ (l l' : Int) (m : List UInt8) (bb : Int) (hm : m.length = 3) (W : V),(opt (binK .add (.str (heldM (s,b) l)) (.str m)) fun y7=>opt (binK .add y7 (.str (heldM (t,c) l'))) fun y9=>opt (aggK [y9,.int .i64 bb]) fun y10=>y10 = W) = (V.agg [.str (heldM (s,b) l ++ m ++ heldM (t,c) l'),.int .i64 bb] = W):=fun l l' m bb hm W=>by
  rw [addT3 (e0 l l' m hm) (Q:=fun y9=>opt (aggK [y9,.int .i64 bb]) fun y10=>y10 = W)]
  rfl
 rw [e_sche_joint]
 have hc : ∀ (x : List UInt8) (y : Int),chkK 2 (.agg [.str x,.int .i64 y]) = some (.agg [.str x,.int .i64 y]):=fun x y=>rfl
 rw [hc,opt_s,hc,opt_s,bEql,opt_s]
 by_cases h3 : k = 3
 ·subst h3
  simp only [decide_true,iteB_true,c_sche_piece_held,f1,f2,opt_s]
  rw [g 1 2 [32,43,32] 1 rfl]
  rfl
 ·by_cases h4 : k = 4
  ·subst h4
   simp only [decide_true,decide_false,h3,bEql,iteB_true,iteB_false,c_sche_piece_held,f1,f2,opt_s]
   rw [g 1 2 [32,45,32] 1 rfl]
   rfl
  ·simp only [decide_false,h3,h4,bEql,iteB_false,c_sche_piece_held,f1,f2,opt_s]
   rw [g 2 3 [32,38,32] 2 rfl]
   simp only [jointM,h3,h4,if_false]
   rfl
end Go.Fbs
