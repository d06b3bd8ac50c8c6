import Derived.Test.YtnmcilaebamncaaCB
namespace Go.Fbs
open Go.Proofs
def toks : Nat → Nat → List UInt8 → List (Int × Nat × List UInt8) × Option Nat
 | 0,_,_=>([],none)
 | _ + 1,_,[]=>([],none)
 | f + 1,k,c :: l =>
  if (nextT (c :: l)).2.2 = false then ([],some k)
  else
   let r:=(c :: l).drop (nextT (c :: l)).2.1.length
   let q:=toks f (k + (nextT (c :: l)).2.1.length + skipN false r) (r.drop (skipN false r))
   (((nextT (c :: l)).1,k,(nextT (c :: l)).2.1) :: q.1,q.2)
def tokensT (l : List UInt8) : List (Int × Nat × List UInt8) × Nat × Int :=
 if 100000 < l.length then ([],0,8)
 else
  let q:=toks l.length (skipN false l) (l.drop (skipN false l))
  match q.2 with
  | some k=>([],k,7)
  | none=>(q.1,0,0)
def tokW (x : Int × Nat × List UInt8) : V:=tokV x.1 x.2.1 x.2.2
def tokensV (ts : List (Int × Nat × List UInt8)) : V:=.sl .ro (ts.map tokW)
def F_toke_Tokens : Spec
 | [.str l]=>if l.length ≤ big then some (.tup [tokensV (tokensT l).1,vI (tokensT l).2.1,vI (tokensT l).2.2]) else none
 | _=>none
theorem nextT_len {l : List UInt8} (hl : l ≠ []) : 1 ≤ (nextT l).2.1.length ∧ (nextT l).2.1.length ≤ l.length:=by
 have h1 : 1 ≤ l.length:=by cases l with
  | nil=>exact absurd rfl hl
  | cons=>simp
 unfold nextT
 split
 ·have:=(List.takeWhile_sublist (fun c : UInt8=>letterB c.toNat) (l:=l)).length_le
  unfold rowN at *
  simp only [List.length_take]; omega
 ·split
  ·rename_i h
   rw [List.isPrefixOf_iff_prefix] at h
   have:=h.length_le
   exact ⟨by simp,this⟩
  ·simp only [List.length_take]; omega
theorem cano_tokens (ts : List (Int × Nat × List UInt8)) : (tokensV ts).cano = true:=by
 simp only [tokensV,V.cano]; exact canos_map fun a=>rfl
theorem ok_toke_Tokens : SpecL Try.prog n_toke_Tokens F_toke_Tokens:=by
 refine go_toke_Tokens (T:=[(n_toke_skip,F_toke_skip),(n_toke_next,F_toke_next)]) (TabOk.cons ok_toke_skip (TabOk.cons ok_toke_next TabOk.nil)) fun args v hv=>?_
 have c_toke_skip : ∀ args,tab [(n_toke_skip,F_toke_skip),(n_toke_next,F_toke_next)] n_toke_skip args = F_toke_skip args:=fun _=>rfl
 have c_toke_next : ∀ args,tab [(n_toke_skip,F_toke_skip),(n_toke_next,F_toke_next)] n_toke_next args = F_toke_next args:=fun _=>rfl
 unfold F_toke_Tokens at hv
 split at hv <;> (try simp only [Option.ite_none_right_eq_some,Option.some.injEq,reduceCtorEq] at hv)
 rename_i l
 obtain ⟨hl,rfl⟩:=hv
 have hl0:=hl
 unfold big at hl
 refine ⟨rfl,rfl,by simp [V.cano,canos,cano_tokens],?_⟩
 rw [e_toke_Tokens]
 simp only [sS,if_true,if_false,reduceCtorEq]
 by_cases hbig : 100000 < l.length
 ·have hb' : (100000 : Int) < (l.length : Int):=by omega
  simp [hb',tokensT,hbig,tokensV]
 ·have hb' : ¬ (100000 : Int) < (l.length : Int):=by omega
  simp only [hb',decide_false,sS,if_true,if_false,reduceCtorEq,c_toke_skip,F_toke_skip,hl0]
  have hs0:=skipN_le false l
  refine loopP_inv (fun vs=>∃ (k : Nat) (dn : List (Int × Nat × List UInt8)) (f : Nat),vs = [.sl .ro (dn.map tokW),vI k] ∧ k ≤ l.length ∧ dn.length ≤ k ∧ l.length - k ≤ f ∧
   toks l.length (skipN false l) (l.drop (skipN false l)) = (dn ++ (toks f k (l.drop k)).1,(toks f k (l.drop k)).2)) (fun vs=>l.length - natOf (gv vs 1))
   ⟨skipN false l,[],l.length,rfl,hs0,Nat.zero_le _,Nat.sub_le _ _,by simp⟩ ?_
  rintro r _ ⟨k,dn,f,rfl,hk,hdn,hf,htk⟩ hr
  refine ⟨rfl,?_⟩
  simp only [sS,if_true,if_false,reduceCtorEq]
  by_cases hlt : k < l.length
  ·have hlt' : (k : Int) < (l.length : Int):=by omega
   have hdne : l.drop k ≠ []:=by
    intro e; have:=congrArg List.length e; simp only [List.length_drop,List.length_nil] at this; omega
   have hdl : (l.drop k).length ≤ big:=by simp only [List.length_drop]; unfold big; omega
   obtain ⟨n1,n2⟩:=nextT_len hdne
   simp only [List.length_drop] at n2
   simp only [hlt',decide_true,sS,if_true,if_false,reduceCtorEq,sliceS_from hk,c_toke_next,F_toke_next,if_pos (And.intro hdne hdl),List.getElem?_cons_zero,List.getElem?_cons_succ,tokV]
   obtain ⟨f,rfl⟩ : ∃ f',f = f' + 1:=⟨f - 1,by omega⟩
   cases hok : (nextT (l.drop k)).2.2
   ·have hst : toks (f + 1) k (l.drop k) = ([],some k):=by
     cases hd : l.drop k with
     | nil=>exact absurd hd hdne
     | cons c t=>rw [hd] at hok; simp [toks,hok]
    rw [hst] at htk
    simp [sS,if_true,if_false,reduceCtorEq,chkK,sc,tokensT,hbig,htk,tokensV]
   ·have hst : toks (f + 1) k (l.drop k) = (((nextT (l.drop k)).1,k,(nextT (l.drop k)).2.1) :: (toks f (k + (nextT (l.drop k)).2.1.length + skipN false (l.drop (k + (nextT (l.drop k)).2.1.length))) (l.drop (k + (nextT (l.drop k)).2.1.length + skipN false (l.drop (k + (nextT (l.drop k)).2.1.length))))).1,
      (toks f (k + (nextT (l.drop k)).2.1.length + skipN false (l.drop (k + (nextT (l.drop k)).2.1.length))) (l.drop (k + (nextT (l.drop k)).2.1.length + skipN false (l.drop (k + (nextT (l.drop k)).2.1.length))))).2):=by
     cases hd : l.drop k with
     | nil=>exact absurd hd hdne
     | cons c t =>
      rw [hd] at hok
      have e : ∀ j,l.drop (k + j) = (c :: t).drop j:=fun j=>by rw [← hd,List.drop_drop]
      simp [toks,hok,Nat.add_assoc,e]
    rw [hst] at htk
    generalize hn : (nextT (l.drop k)).2.1.length = n at *
    have hkn : k + n ≤ l.length:=by omega
    have hcast : ((k : Int) + (n : Int)) = ((k + n : Nat) : Int):=by omega
    have hsl:=skipN_le false (l.drop (k + n))
    simp only [List.length_drop] at hsl
    have hkl : l.length - (k + n) ≤ big:=by unfold big; omega
    simp only [chkK,sc,sS,if_true,if_false,reduceCtorEq,List.all_cons,List.all_nil,List.length_cons,List.length_nil,Bool.and_true,Nat.zero_add,Nat.reduceAdd,and_self,Bool.not_true,chk1K,aggK,List.getD_cons_zero,List.getD_cons_succ]
    rw [lit_s (by simp) (by simp [V.cells,V.ok1])]
    simp only [sS,if_true,if_false,reduceCtorEq]
    rw [app_s (n:=3) (b:=32) (by simp; omega) (all_map_len (f:=tokW) fun a=>rfl) (by simp [V.cells])]
    simp only [sS,if_true,if_false,reduceCtorEq,hn]
    rw [wrap_in (by omega) (by omega),hcast]
    simp only [sS,if_true,if_false,reduceCtorEq,sliceS_from hkn,c_toke_skip,F_toke_skip,List.length_drop,hkl]
    rw [wrap_in (by omega) (by omega)]
    refine hr _ ⟨k + n + skipN false (l.drop (k + n)),dn ++ [((nextT (l.drop k)).1,k,(nextT (l.drop k)).2.1)],f,by simp [tokW,tokV],by omega,by simp; omega,by omega,?_⟩ (by simp [gv,natOf]; omega)
    rw [htk]; simp
  ·have hlt' : ¬ (k : Int) < (l.length : Int):=by omega
   have hnil : l.drop k = []:=List.drop_eq_nil_of_le (by omega)
   have hst : toks f k [] = ([],none):=by cases f <;> rfl
   rw [hnil,hst] at htk
   simp [hlt',tokensT,hbig,htk,tokensV]
end Go.Fbs
