import Derived.Test.YthakklikgmcgdaaGreatDoorPD
import Derived.Test.YthakklikgmcgdaaGreatDoorRows
import Derived.Lib.LaidCase
import Derived.SizedLaws
import Derived.LaidMore
import Derived.Lay
set_option linter.unusedSimpArgs false
set_option linter.unusedVariables false
set_option linter.unusedSectionVars false
set_option maxRecDepth 100000
namespace Go.Fbs
open Go.Proofs Go.RowKit
theorem itT (A B : Prop) : iteB (.bool true) A B = A:=by simp only [sS,if_true,if_false,reduceCtorEq]
theorem itF (A B : Prop) : iteB (.bool false) A B = B:=by simp only [sS,if_true,if_false,reduceCtorEq]
theorem parse_tot {N : Nat} (hN : 20 ≤ N) {s : List UInt8} (hs : s.length ≤ 30000) : ∃ v a e,F_Parse objM N [.str s] = some (.tup [v,.int .i64 a,.int .i64 e]) ∧ ((v = jn 0 [] [] [] ∧ e ≠ 0) ∨ (e = 0 ∧ ∃ x,Wf 20 v x ∧ x.length ≤ 6 * s.length)):=by
 have d0 : Dom ⟨s,0,0,0,0⟩:=⟨by show s.length ≤ big; unfold big; omega,Int.le_refl 0,Int.natCast_nonneg _⟩
 have h0 : Plc 20 ⟨s,0,0,0,0⟩:=⟨d0,by show s.length ≤ _; omega,rfl,Int.le_refl 0,rfl⟩
 have k1:=skipA d0
 obtain ⟨v,q,h1,h2,h3⟩:=val_tot (N + 1) 20 (by omega) _ (h0.ahead k1 rfl)
 have hp : parseM objM (N + 1) s = if (endM s q).e = 0 then some (v,0,0) else some (jn 0 [] [] [],(endM s q).b,(endM s q).e):=by
  unfold parseM
  rw [if_neg (by omega),h1]
 have hF : F_Parse objM N [.str s] = (parseM objM (N + 1) s).map fun r=>.tup [r.1,.int .i64 r.2.1,.int .i64 r.2.2]:=rfl
 rw [hF,hp]
 by_cases he : (endM s q).e = 0
 ·rw [if_pos he]
  have hq : q.e = 0:=by
   unfold endM at he
   split at he
   ·assumption
   ·exact he
  obtain ⟨_,x,x1,x2⟩:=h3 hq
  have b1 : (0 : Int) ≤ (skipM ⟨s,0,0,0,0⟩).a:=k1.a
  have b2 : q.a ≤ q.s.length:=h2.dom.2.2
  have b3 : q.s = s:=h2.s
  rw [b3] at b2
  exact ⟨v,0,0,rfl,.inr ⟨rfl,x,x1,by omega⟩⟩
 ·rw [if_neg he]
  exact ⟨_,_,_,rfl,.inl ⟨rfl,he⟩⟩
def F_SameTexts : Spec
 | [.sl .ro ks,.sl .ro ls]=>match strsOf ks,strsOf ls with
  | some k,some l=>if k = l ∧ k.length ≤ 1000000000 then some (.bool true) else none
  | _,_=>none
 | _=>none
theorem F_SameTexts_at {ks : List (List UInt8)} (h : ks.length ≤ 1000000000) : F_SameTexts [.sl .ro (ks.map V.str),.sl .ro (ks.map V.str)] = some (.bool true):=by
 show (match strsOf (ks.map V.str),strsOf (ks.map V.str) with | some k,some l=>_ | _,_=>none) = _
 rw [strsOf_map]
 exact if_pos ⟨rfl,h⟩
attribute [local irreducible] FunWp FunWpE in
theorem ok_SameTexts : SpecL Tryz.prog n_entailref1_SameTexts F_SameTexts:=by
 refine go_entailref1_SameTexts (T:=[]) TabOk.nil fun args v hv=>?_
 unfold F_SameTexts at hv
 split at hv
 case h_2=>cases hv
 rename_i ks0 ls0
 split at hv
 case h_2=>cases hv
 rename_i ks l hks hls
 simp only [Option.ite_none_right_eq_some,Option.some.injEq] at hv
 obtain ⟨⟨rfl,h1⟩,rfl⟩:=hv
 obtain rfl:=strsOf_inv hks
 obtain rfl:=strsOf_inv hls
 refine ⟨rfl,by simp [canos,V.cano,keys_cano],rfl,?_⟩
 refine Eq.mpr (e_entailref1_SameTexts _ _ (.sl .ro (ks.map V.str)) (.sl .ro (ks.map V.str))) ?_
 simp only [lenAt,sS,if_true,if_false,reduceCtorEq]
 rw [if_neg (by simp)]
 refine loopP_inv (fun vs=>∃ i : Nat,vs = [.int .i64 i] ∧ i ≤ ks.length) (fun vs=>ks.length - natOf (gv vs 0)) ⟨0,rfl,Nat.zero_le _⟩ ?_
 rintro r1 vs ⟨i,rfl,hi⟩ hnext
 refine ⟨rfl,?_⟩
 have g0 : ∀ x : V,gv [x] 0 = x:=fun _=>rfl
 by_cases hk : i < ks.length
 ·have hlt : (i : Int) < ((ks.map V.str).length : Int):=by rw [List.length_map]; omega
  have hx:=keyAt (List.getElem?_eq_getElem hk)
  have hw : IntKind.i64.wrap ((i : Int) + 1) = ((i + 1 : Nat) : Int):=wrap_in (by omega) (by omega)
  simp only [g0,decide_eq_true hlt,hx,hw,sS,if_true,if_false,reduceCtorEq]
  rw [if_neg (by simp)]
  refine hnext _ ⟨i + 1,rfl,hk⟩ ?_
  show ks.length - (i + 1) < ks.length - i
  omega
 ·have hlt : ¬ (i : Int) < ((ks.map V.str).length : Int):=by rw [List.length_map]; omega
  simp only [g0,decide_eq_false hlt,sS,if_true,if_false,reduceCtorEq]
attribute [local irreducible] FunWp FunWpE in
theorem ok_SameJson_step {n : Nat} (h : SpecL Tryz.prog n_entailref22_SameJson (F_json_Same n)) : SpecL Tryz.prog n_entailref22_SameJson (F_json_Same (n + 1)):=by
 refine go_entailref22_SameJson (T:=[(n_entailref22_SameJson,F_json_Same n),(n_entailref1_SameTexts,F_SameTexts)]) (TabOk.cons h (TabOk.cons ok_SameTexts TabOk.nil)) fun args v hv=>?_
 obtain ⟨a,rfl,hd,rfl⟩:=F_Same_inv hv
 have hca:=hd.cano
 refine ⟨rfl,by simp [canos,hca],rfl,?_⟩
 have c1 : ∀ args,tab [(n_entailref22_SameJson,F_json_Same n),(n_entailref1_SameTexts,F_SameTexts)] n_entailref22_SameJson args = F_json_Same n args:=fun _=>rfl
 have c2 : ∀ args,tab [(n_entailref22_SameJson,F_json_Same n),(n_entailref1_SameTexts,F_SameTexts)] n_entailref1_SameTexts args = F_SameTexts args:=fun _=>rfl
 obtain ⟨k,t,ks,ls,rfl,h1,h2,h4⟩:=hd
 have f2:=F_SameTexts_at h1
 refine Eq.mpr (e_entailref22_SameJson _ _ (jn k t (ks.map V.str) ls) (jn k t (ks.map V.str) ls)) ?_
 have eI : binK .neq (.int .i64 k) (.int .i64 k) = some (.bool false):=by simp only [sS,if_true,if_false,reduceCtorEq]; simp
 have eS : binK .neq (.str t) (.str t) = some (.bool false):=by simp only [sS,if_true,if_false,reduceCtorEq]; simp
 have eL : binK .neq (.int .i64 ls.length) (.int .i64 ls.length) = some (.bool false):=by simp only [sS,if_true,if_false,reduceCtorEq]; simp
 have pF : ∀ x y : V,pickV (.bool false) x y = some y:=fun _ _=>rfl
 have gF : ∀ o : Option V,guardV (.bool false) false o = o:=fun _=>rfl
 have nT : unV .not (.bool true) = some (.bool false):=rfl
 rw [ckJ,opt_s,opt_s]
 simp only [cJ0,cJ1,cJ2,cJ3,eI,eS,pF,gF,c2,f2,nT,lenAt,eL,opt_s,itF]
 refine loopP_inv (fun vs=>∃ i : Nat,vs = [.int .i64 i] ∧ i ≤ ls.length) (fun vs=>ls.length - natOf (gv vs 0)) ⟨0,rfl,Nat.zero_le _⟩ ?_
 rintro r2 vs ⟨m,rfl,hm⟩ hnext2
 refine ⟨rfl,?_⟩
 have g0 : ∀ x : V,gv [x] 0 = x:=fun _=>rfl
 by_cases hk2 : m < ls.length
 ·have hlt2 : (m : Int) < (ls.length : Int):=by omega
  have hg:=List.getElem?_eq_getElem hk2
  have hde:=h4 _ (List.mem_of_getElem? hg)
  have hje : ∃ k' t' ks' ls',ls[m] = jn k' t' ks' ls':=by
   cases n with
   | zero=>exact hde.elim
   | succ n=>obtain ⟨k',t',ks',ls',e,_⟩:=hde; exact ⟨_,_,_,_,e⟩
  obtain ⟨k',t',ks',ls',ej⟩:=hje
  rw [ej] at hg hde
  have hx:=elAt hg
  have hw : IntKind.i64.wrap ((m : Int) + 1) = ((m + 1 : Nat) : Int):=wrap_in (by omega) (by omega)
  simp only [g0,decide_eq_true hlt2,hx,hw,c1,F_Same_at hde,sS,if_true,if_false,reduceCtorEq]
  refine hnext2 _ ⟨m + 1,rfl,hk2⟩ ?_
  show ls.length - (m + 1) < ls.length - m
  omega
 ·have hlt2 : ¬ (m : Int) < (ls.length : Int):=by omega
  simp only [g0,decide_eq_false hlt2,sS,if_true,if_false,reduceCtorEq]
theorem ok_SameJson : ∀ n : Nat,SpecL Tryz.prog n_entailref22_SameJson (F_json_Same n)
 | 0=>by
  have h0 : ∀ args,F_json_Same 0 args = none:=fun args=>if_neg (fun ⟨a,_,h⟩=>h.elim)
  refine go_entailref22_SameJson (T:=[]) TabOk.nil fun args v hv=>?_
  rw [h0] at hv; cases hv
 | n + 1=>ok_SameJson_step (ok_SameJson n)
end Go.Fbs

namespace Go.Fbs
open Go.Proofs Go.RowKit
theorem join_end : ∀ {ys : List (List UInt8)} (y : List UInt8),ys ≠ [] → joinT (ys ++ [y]) = joinT ys ++ [44] ++ y
 | [],_,h=>absurd rfl h
 | [x],y,_=>by simp [joinT]
 | x :: z :: r,y,_=>by
  have:=join_end (ys:=z :: r) y (by simp)
  simp only [List.cons_append,joinT] at this ⊢
  rw [this]; simp
theorem join_pre (ys : List (List UInt8)) : ∀ i,(joinT (ys.take i)).length ≤ (joinT ys).length:=by
 intro i
 conv=>rhs; rw [← List.take_append_drop i ys]
 generalize ys.take i = a
 generalize ys.drop i = b
 induction b generalizing a with
 | nil=>simp
 | cons y b ih =>
  have h:=ih (a ++ [y])
  rw [List.append_assoc] at h
  refine Nat.le_trans ?_ h
  by_cases ha : a = []
  ·subst ha; simp [joinT]
  ·rw [join_end y ha]; simp only [List.length_append]; omega
def F_Glue : Spec
 | [.sl .ro ks,.str s]=>match strsOf ks with
  | some l=>if s = [44] ∧ l.length ≤ 400000 ∧ (joinT l).length ≤ 400000 then some (.str (joinT l)) else none
  | none=>none
 | _=>none
theorem F_Glue_at {l : List (List UInt8)} (h1 : l.length ≤ 400000) (h2 : (joinT l).length ≤ 400000) : F_Glue [.sl .ro (l.map V.str),.str [44]] = some (.str (joinT l)):=by
 show (match strsOf (l.map V.str) with | some l=>_ | none=>_) = _
 rw [strsOf_map]
 exact if_pos ⟨rfl,h1,h2⟩
attribute [local irreducible] FunWp FunWpE in
theorem ok_Glue : SpecL Tryz.prog n_entailref1_Glue F_Glue:=by
 refine go_entailref1_Glue (T:=[]) TabOk.nil fun args v hv=>?_
 unfold F_Glue at hv
 split at hv
 case h_2=>cases hv
 rename_i ks0 s
 split at hv
 case h_2=>cases hv
 rename_i ks hks
 simp only [Option.ite_none_right_eq_some,Option.some.injEq] at hv
 obtain ⟨⟨rfl,h1,h2⟩,rfl⟩:=hv
 obtain rfl:=strsOf_inv hks
 refine ⟨rfl,by simp [canos,V.cano,keys_cano],rfl,?_⟩
 refine Eq.mpr (e_entailref1_Glue _ _ (.sl .ro (ks.map V.str)) (.str [44])) ?_
 refine loopP_inv (fun vs=>∃ i : Nat,vs = [.str (joinT (ks.take i)),.int .i64 i] ∧ i ≤ ks.length) (fun vs=>ks.length - natOf (gv vs 1)) ⟨0,rfl,Nat.zero_le _⟩ ?_
 rintro r1 vs ⟨i,rfl,hi⟩ hnext
 refine ⟨rfl,?_⟩
 have g0 : ∀ x y : V,gv [x,y] 0 = x:=fun _ _=>rfl
 have g1 : ∀ x y : V,gv [x,y] 1 = y:=fun _ _=>rfl
 have gs : ∀ x : V,gv [x] 0 = x:=fun _=>rfl
 have hp1:=join_pre ks i
 by_cases hk : i < ks.length
 ·have hlt : (i : Int) < ((ks.map V.str).length : Int):=by rw [List.length_map]; omega
  have hg:=List.getElem?_eq_getElem hk
  have hx:=keyAt hg
  have hw : IntKind.i64.wrap ((i : Int) + 1) = ((i + 1 : Nat) : Int):=wrap_in (by omega) (by omega)
  have hp2:=join_pre ks (i + 1)
  have ht : ks.take (i + 1) = ks.take i ++ [ks[i]]:=by rw [List.take_add_one,hg]; rfl
  simp only [g0,g1,lenAt,decide_eq_true hlt,sS,if_true,if_false,reduceCtorEq]
  by_cases h0 : i = 0
  ·subst h0
   have hj : joinT (ks.take 1) = ks[0]:=by rw [ht]; rfl
   rw [joinP_eq,if_neg (by simp)]
   refine ⟨rfl,?_⟩
   rw [gs,hx,opt_s,show joinT (ks.take 0) = [] from rfl,catS (by rw [hj] at hp2; simp; omega),opt_s]
   refine hnext _ ⟨1,by rw [hj]; rfl,hk⟩ ?_
   show ks.length - 1 < ks.length - 0
   omega
  ·have hne : ks.take i ≠ []:=by intro e; have:=congrArg List.length e; rw [List.length_take,Nat.min_eq_left hi] at this; exact h0 this
   have hj : joinT (ks.take (i + 1)) = joinT (ks.take i) ++ [44] ++ ks[i]:=by rw [ht,join_end _ hne]
   rw [hj] at hp2
   simp only [List.length_append,List.length_cons,List.length_nil] at hp2
   rw [joinP_eq,if_pos (by simp; omega),catS (by simp only [List.length_cons,List.length_nil]; omega),opt_s]
   refine ⟨rfl,?_⟩
   rw [gs,hx,opt_s,catS (by simp only [List.length_append,List.length_cons,List.length_nil]; omega),opt_s,hw]
   refine hnext _ ⟨i + 1,by rw [hj],hk⟩ ?_
   show ks.length - (i + 1) < ks.length - i
   omega
 ·have hlt : ¬ (i : Int) < ((ks.map V.str).length : Int):=by rw [List.length_map]; omega
  have hie : i = ks.length:=by omega
  simp only [g0,g1,lenAt,decide_eq_false hlt,sS,if_true,if_false,reduceCtorEq]
  rw [hie,List.take_length]
theorem sliceOne {s : List UInt8} {i : Nat} {c : UInt8} (h : s[i]? = some c) : sliceS (.str s) (some (.int .i64 (i : Nat))) (some (.int .i64 ((i + 1 : Nat) : Int))) = some (.str [c]):=by
 obtain ⟨hi,hc⟩:=List.getElem?_eq_some_iff.1 h
 have e1 : ((i + 1 : Nat) : Int).toNat = i + 1:=by omega
 have e2 : (s.take (i + 1)).drop i = [c]:=by
  rw [List.take_add_one,h,List.drop_append]
  simp
  rw [Nat.min_eq_left (by omega),Nat.sub_self]; rfl
 unfold sliceS boundV
 dsimp only
 rw [if_pos ⟨by omega,by omega⟩]
 dsimp only
 rw [e1,if_pos ⟨by omega,by omega⟩]
 dsimp only
 rw [Int.toNat_natCast,e2]
theorem hexCut : ∀ q : _root_.Fin 16,sliceS (.str [48,49,50,51,52,53,54,55,56,57,97,98,99,100,101,102]) (some (.int .u8 (q.val : Int))) (some (.int .u8 ((q.val : Int) + 1))) = some (.str [hexB q.val]):=by
 intro q
 match q with
 | ⟨0,_⟩=>rfl | ⟨1,_⟩=>rfl | ⟨2,_⟩=>rfl | ⟨3,_⟩=>rfl | ⟨4,_⟩=>rfl | ⟨5,_⟩=>rfl | ⟨6,_⟩=>rfl | ⟨7,_⟩=>rfl | ⟨8,_⟩=>rfl | ⟨9,_⟩=>rfl | ⟨10,_⟩=>rfl | ⟨11,_⟩=>rfl | ⟨12,_⟩=>rfl | ⟨13,_⟩=>rfl | ⟨14,_⟩=>rfl | ⟨15,_⟩=>rfl | ⟨n + 16,h⟩=>exact absurd h (by omega)
def F_quote : Spec
 | [.str t]=>if t.length ≤ 100000 then some (.str (quoT t)) else none
 | _=>none
def isU8 : Option V → Int → Bool
 | some (.int .u8 k),n=>k == n
 | _,_=>false
theorem isU8_inv {o : Option V} {n : Int} (h : isU8 o n = true) : o = some (.int .u8 n):=by
 unfold isU8 at h
 split at h
 ·rw [beq_iff_eq.1 h]
 ·cases h
theorem shr4 : ∀ c : UInt8,binK .shr (.int .u8 (c.toNat : Int)) (.int .u64 4) = some (.int .u8 ((c.toNat / 16 : Nat) : Int)):=by
 have h : ∀ q : _root_.Fin 256,isU8 (binK .shr (.int .u8 (q.val : Int)) (.int .u64 4)) ((q.val / 16 : Nat) : Int) = true:=by decide +kernel
 intro c
 exact isU8_inv (h ⟨c.toNat,c.toNat_lt⟩)
theorem and15 : ∀ c : UInt8,binK .and (.int .u8 (c.toNat : Int)) (.int .u8 15) = some (.int .u8 ((c.toNat % 16 : Nat) : Int)):=by
 have h : ∀ q : _root_.Fin 256,isU8 (binK .and (.int .u8 (q.val : Int)) (.int .u8 15)) ((q.val % 16 : Nat) : Int) = true:=by decide +kernel
 intro c
 exact isU8_inv (h ⟨c.toNat,c.toNat_lt⟩)
theorem add8 {n : Nat} (h : n < 16) : binK .add (.int .u8 (n : Int)) (.int .u8 1) = some (.int .u8 ((n : Int) + 1)):=by
 have h2 : ∀ q : _root_.Fin 16,isU8 (binK .add (.int .u8 (q.val : Int)) (.int .u8 1)) ((q.val : Int) + 1) = true:=by decide +kernel
 exact isU8_inv (h2 ⟨n,h⟩)
attribute [local irreducible] FunWp FunWpE in
theorem ok_quote : SpecL Tryz.prog n_entailref22_quote F_quote:=by
 refine go_entailref22_quote (T:=[]) TabOk.nil fun args v hv=>?_
 unfold F_quote at hv
 split at hv <;> simp only [Option.ite_none_right_eq_some,Option.some.injEq,reduceCtorEq] at hv
 rename_i t
 obtain ⟨h1,rfl⟩:=hv
 refine ⟨rfl,rfl,rfl,?_⟩
 refine Eq.mpr (e_entailref22_quote _ _ (.str t)) ?_
 refine loopP_inv (fun vs=>∃ i : Nat,vs = [.str ([34] ++ (t.take i).flatMap quoB),.int .i64 i] ∧ i ≤ t.length) (fun vs=>t.length - natOf (gv vs 1)) ⟨0,rfl,Nat.zero_le _⟩ ?_
 rintro r1 vs ⟨i,rfl,hi⟩ hnext
 refine ⟨rfl,?_⟩
 have g0 : ∀ x y : V,gv [x,y] 0 = x:=fun _ _=>rfl
 have g1 : ∀ x y : V,gv [x,y] 1 = y:=fun _ _=>rfl
 have hls : lenS (.str t) = some (.int .i64 t.length):=rfl
 have hq:=quo_len (t.take i)
 have htl : (t.take i).length ≤ 100000:=by rw [List.length_take]; omega
 by_cases hk : i < t.length
 ·have hlt : (i : Int) < (t.length : Int):=by omega
  have hg:=List.getElem?_eq_getElem hk
  have hx : indexS (.str t) (.int .i64 (i : Nat)) = some (.int .u8 t[i].toNat):=idxS_at hg .i64
  have hw : IntKind.i64.wrap ((i : Int) + 1) = ((i + 1 : Nat) : Int):=wrap_in (by omega) (by omega)
  have hsl:=sliceOne hg
  have ht : t.take (i + 1) = t.take i ++ [t[i]]:=by rw [List.take_add_one,hg]; rfl
  have hend : ∀ x,x = quoB t[i] → r1 [.str ([34] ++ (t.take i).flatMap quoB ++ x),.int .i64 ((i + 1 : Nat) : Int)]:=fun x hx=>hnext _ ⟨i + 1,by rw [ht,hx,List.flatMap_append]; simp only [List.append_assoc,List.flatMap_cons,List.flatMap_nil,List.append_nil],hk⟩ (by show t.length - (i + 1) < t.length - i; omega)
  have hadd : binK .add (.int .i64 (i : Int)) (.int .i64 1) = some (.int .i64 ((i + 1 : Nat) : Int)):=by rw [← hw]; rfl
  generalize t[i] = c at *
  have hbl : ∀ n : UInt8,binK .eql (.int .u8 (c.toNat : Int)) (.int .u8 (n.toNat : Int)) = some (.bool (decide (c = n))):=fun n=>by
   have : ((c.toNat : Int) = (n.toNat : Int)) ↔ c = n:=⟨toNat_inj,fun h=>by rw [h]⟩
   simp only [sS,if_true,if_false,reduceCtorEq]
   congr 2
   exact decide_eq_decide.2 this
  have hbs : binK .lss (.int .u8 (c.toNat : Int)) (.int .u8 32) = some (.bool (decide (c < 32))):=by
   have : ((c.toNat : Int) < 32) ↔ c < 32:=by rw [UInt8.lt_iff_toNat_lt]; show _ ↔ c.toNat < 32; omega
   simp only [sS,if_true,if_false,reduceCtorEq]
   congr 2
   exact decide_eq_decide.2 this
  have h34 : binK .eql (.int .u8 (c.toNat : Int)) (.int .u8 34) = some (.bool (decide (c = 34))):=hbl 34
  have h92 : binK .eql (.int .u8 (c.toNat : Int)) (.int .u8 92) = some (.bool (decide (c = 92))):=hbl 92
  have h127 : binK .eql (.int .u8 (c.toNat : Int)) (.int .u8 127) = some (.bool (decide (c = 127))):=hbl 127
  have pk : ∀ (b : Bool) (y : V),pickV (.bool b) (.bool true) y = some (if b then .bool true else y):=fun b y=>rfl
  rw [g1,hls,opt_s,show binK .lss (.int .i64 (i : Int)) (.int .i64 (t.length : Int)) = some (.bool (decide ((i : Int) < t.length))) from rfl,opt_s,decide_eq_true hlt,itT,hx,opt_s,h34,opt_s,h92,opt_s,pk,opt_s]
  by_cases hc : c = 34 ∨ c = 92
  ·have e : (if decide (c = 34) = true then V.bool true else V.bool (decide (c = 92))) = .bool true:=by
    rcases hc with rfl | rfl <;> rfl
   rw [e,itT,g0,catS (by simp only [List.length_append,List.length_cons,List.length_nil]; omega),opt_s,hadd,opt_s,hsl,opt_s,catS (by simp only [List.length_append,List.length_cons,List.length_nil]; omega),opt_s,opt_s]
   have:=hend [92,c] (by unfold quoB; rw [if_pos hc])
   simpa using this
  ·have e : (if decide (c = 34) = true then V.bool true else V.bool (decide (c = 92))) = .bool false:=by
    simp only [not_or] at hc
    simp [hc.1,hc.2]
   rw [e,itF,hbs,opt_s,h127,opt_s,pk,opt_s]
   by_cases hc2 : c < 32 ∨ c = 127
   ·have e : (if decide (c < 32) = true then V.bool true else V.bool (decide (c = 127))) = .bool true:=by
     rcases hc2 with h | rfl
     ·rw [decide_eq_true h]; rfl
     ·rfl
    have hd16 : c.toNat / 16 < 16:=by have:=c.toNat_lt; omega
    rw [e,itT,g0,catS (by simp only [List.length_append,List.length_cons,List.length_nil]; omega),opt_s,shr4,opt_s,opt_s,add8 hd16,opt_s,hexCut ⟨c.toNat / 16,hd16⟩,opt_s,catS (by simp only [List.length_append,List.length_cons,List.length_nil]; omega),opt_s,and15,opt_s,opt_s,add8 (Nat.mod_lt _ (by decide)),opt_s,hexCut ⟨c.toNat % 16,Nat.mod_lt _ (by decide)⟩,opt_s,catS (by simp only [List.length_append,List.length_cons,List.length_nil]; omega),opt_s,hadd,opt_s]
    have:=hend [92,117,48,48,hexB (c.toNat / 16),hexB (c.toNat % 16)] (by unfold quoB; rw [if_neg hc,if_pos hc2])
    simpa using this
   ·have e : (if decide (c < 32) = true then V.bool true else V.bool (decide (c = 127))) = .bool false:=by
     simp only [not_or] at hc2
     simp [hc2.1,hc2.2]
    rw [e,itF,hadd,opt_s,hsl,opt_s,g0,catS (by simp only [List.length_append,List.length_cons,List.length_nil]; omega),opt_s,opt_s]
    exact hend [c] (by unfold quoB; rw [if_neg hc,if_neg hc2])
 ·have hlt : ¬ (i : Int) < (t.length : Int):=by omega
  have hie : i = t.length:=by omega
  rw [g1,hls,opt_s,show binK .lss (.int .i64 (i : Int)) (.int .i64 (t.length : Int)) = some (.bool (decide ((i : Int) < t.length))) from rfl,opt_s,decide_eq_false hlt,itF,g0,catS (by simp only [List.length_append,List.length_cons,List.length_nil]; omega),opt_s,hie,List.take_length]
  rfl
end Go.Fbs

namespace Go.Fbs
open Go.Proofs Go.RowKit
def WfS : Nat → V → List UInt8 → Prop
 | 0,_,_=>False
 | n + 1,v,x=>Wf n v x
open Classical in
noncomputable def F_rText (n : Nat) : Spec
 | [v]=>match toldM 21 [] v with
  | some l=>if WfS n v l ∧ n ≤ 20 ∧ l.length ≤ 100000 then some (.str l) else none
  | none=>none
 | _=>none
theorem F_rText_at {n : Nat} {v : V} {x : List UInt8} (h : Wf n v x) (hn : n < 20) (hl : x.length ≤ 100000) : F_rText (n + 1) [v] = some (.str x):=by
 have h1:=told_val n v x h 21 (by omega) [] (by rw [List.nil_append]; omega)
 rw [List.nil_append] at h1
 simp only [F_rText,h1]
 exact if_pos ⟨h,hn,hl⟩
def Stp (p : V → Option V) (v : V) (x : List UInt8) : Prop:=∃ (k : Int) (t : List UInt8) (ks : List (List UInt8)) (ls : List V) (ys : List (List UInt8)),v = jn k t (ks.map V.str) ls ∧ ys.length = ls.length ∧ ys.length ≤ 200000 ∧ (joinT ys).length ≤ 200000 ∧
 (∀ i (h : i < ls.length),∃ xi,Good ls[i] ∧ p ls[i] = some (.str xi) ∧ ((k = 7 ∧ ∃ key,ks[i]? = some key ∧ key.length ≤ 100000 ∧ (quoT key).length + 1 + xi.length ≤ 500000 ∧ ys[i]? = some (quoT key ++ [58] ++ xi)) ∨ (k ≠ 7 ∧ ys[i]? = some xi))) ∧
 ((k = 1 ∧ x = [110,117,108,108]) ∨ (k = 2 ∧ x = [102,97,108,115,101]) ∨ (k = 3 ∧ x = [116,114,117,101]) ∨ (k = 4 ∧ x = t) ∨ (k = 5 ∧ t.length ≤ 100000 ∧ x = quoT t) ∨ (k = 6 ∧ x = [91] ++ joinT ys ++ [93]) ∨ (k = 7 ∧ x = [123] ++ joinT ys ++ [125]))
theorem stp_leaf {p : V → Option V} {v : V} {x : List UInt8} (h : Leaf v x) (hl : x.length ≤ 100000) : Stp p v x:=by
 have none' : ∀ (Z : Nat → Prop),∀ i,i < ([] : List V).length → Z i:=fun _ i h=>absurd h (Nat.not_lt_zero _)
 rcases h with ⟨rfl,rfl⟩ | ⟨rfl,rfl⟩ | ⟨rfl,rfl⟩ | ⟨_,rfl⟩ | ⟨t,_,rfl,rfl⟩
 ·exact ⟨1,[],[],[],[],rfl,rfl,by simp,by simp [joinT],fun i h=>absurd h (Nat.not_lt_zero _),.inl ⟨rfl,rfl⟩⟩
 ·exact ⟨2,[],[],[],[],rfl,rfl,by simp,by simp [joinT],fun i h=>absurd h (Nat.not_lt_zero _),.inr (.inl ⟨rfl,rfl⟩)⟩
 ·exact ⟨3,[],[],[],[],rfl,rfl,by simp,by simp [joinT],fun i h=>absurd h (Nat.not_lt_zero _),.inr (.inr (.inl ⟨rfl,rfl⟩))⟩
 ·exact ⟨4,_,[],[],[],rfl,rfl,by simp,by simp [joinT],fun i h=>absurd h (Nat.not_lt_zero _),.inr (.inr (.inr (.inl ⟨rfl,rfl⟩)))⟩
 ·have h1:=quo_ge t
  have h2:=quoT_len t
  exact ⟨5,t,[],[],[],rfl,rfl,by simp,by simp [joinT],fun i h=>absurd h (Nat.not_lt_zero _),.inr (.inr (.inr (.inr (.inl ⟨rfl,by omega,rfl⟩))))⟩
theorem wf_good {n : Nat} {v : V} {x : List UInt8} (h : Wf n v x) (hl : x.length ≤ 200000) : Good v:=isJn_inv (wf_deep n v x h hl).isJn
theorem stp_wf {n : Nat} (hn : n < 20) {v : V} {x : List UInt8} (h : Wf n v x) (hl : x.length ≤ 100000) : Stp (fun v=>F_rText n [v]) v x:=by
 cases n with
 | zero=>exact stp_leaf h hl
 | succ n =>
  rcases h with h | ⟨q,hq,rfl,rfl⟩ | ⟨q,hq,hnd,rfl,rfl⟩
  ·exact stp_leaf h hl
  ·have hfo : ∀ y ∈ q.map (·.2),FirstOk y:=fun y hy=>by
    obtain ⟨z,hz,rfl⟩:=List.mem_map.1 hy
    exact wf_first (hq z hz)
   have hjl:=join_len _ hfo
   have hl2:=hl
   simp only [List.length_append,List.length_cons,List.length_nil,List.length_map] at hl2 hjl
   refine ⟨6,[],[],_,q.map (·.2),rfl,by simp,by simp; omega,by omega,fun i hi=>?_,.inr (.inr (.inr (.inr (.inr (.inl ⟨rfl,rfl⟩)))))⟩
   have hi' : i < q.length:=by simpa using hi
   have hw:=hq _ (List.getElem_mem hi')
   have hm:=mem_join (List.mem_map.2 ⟨q[i],List.getElem_mem hi',rfl⟩ : q[i].2 ∈ q.map (·.2))
   refine ⟨q[i].2,by rw [List.getElem_map]; exact wf_good hw (by omega),by rw [List.getElem_map]; exact F_rText_at hw (by omega) (by omega),.inr ⟨by decide,?_⟩⟩
   rw [List.getElem?_map,List.getElem?_eq_getElem hi']; rfl
  ·have hfo : ∀ y ∈ q.map (fun q=>quoT q.1 ++ [58] ++ q.2.2),FirstOk y:=fun y hy=>by
    obtain ⟨z,hz,rfl⟩:=List.mem_map.1 hy
    exact ⟨34,_,rfl,by decide,by decide,by decide,by decide⟩
   have hjl:=join_len _ hfo
   have hl2:=hl
   simp only [List.length_append,List.length_cons,List.length_nil,List.length_map] at hl2 hjl
   refine ⟨7,[],_,_,q.map (fun q=>quoT q.1 ++ [58] ++ q.2.2),rfl,by simp,by simp; omega,by omega,fun i hi=>?_,.inr (.inr (.inr (.inr (.inr (.inr ⟨rfl,rfl⟩)))))⟩
   have hi' : i < q.length:=by simpa using hi
   have hw:=hq _ (List.getElem_mem hi')
   have hm:=mem_join (List.mem_map.2 ⟨q[i],List.getElem_mem hi',rfl⟩ : (quoT q[i].1 ++ [58] ++ q[i].2.2) ∈ q.map (fun q=>quoT q.1 ++ [58] ++ q.2.2))
   have h1:=quo_ge q[i].1
   have h2:=quoT_len q[i].1
   simp only [List.length_append,List.length_cons,List.length_nil] at hm
   refine ⟨q[i].2.2,by rw [List.getElem_map]; exact wf_good hw.2 (by omega),by rw [List.getElem_map]; exact F_rText_at hw.2 (by omega) (by omega),.inl ⟨rfl,q[i].1,?_,by omega,by omega,?_⟩⟩
   ·rw [List.getElem?_map,List.getElem?_eq_getElem hi']; rfl
   ·rw [List.getElem?_map,List.getElem?_eq_getElem hi']; rfl
theorem app_strs {a : List (List UInt8)} {y : List UInt8} (h : a.length ≤ 200000) : appK 1 16 (.sl .ro (a.map V.str)) (.sl .ro [.str y]) = some (.sl .ro ((a ++ [y]).map V.str)):=by
 rw [app_s (by simp; omega) (by rw [List.all_eq_true]; intro e he; obtain ⟨s,_,rfl⟩:=List.mem_map.1 he; rfl) rfl]
 simp
theorem F_quote_at {t : List UInt8} (h : t.length ≤ 100000) : F_quote [.str t] = some (.str (quoT t)):=if_pos h
noncomputable abbrev TLrt (n : Nat) : List (FuncId × Spec):=[(n_entailref22_Text,F_rText n),(n_entailref22_quote,F_quote),(n_entailref1_Glue,F_Glue)]
attribute [local irreducible] FunWp FunWpE in
theorem rText_body {n : Nat} {v : V} {x : List UInt8} (h : Stp (fun v=>F_rText n [v]) v x) : FunWp tyT (tab (TLrt n)) 62 q_entailref22_Text [.tmp 2] (cB Tryz.f14) [v] (fun r=>r = .str x):=by
 have c1 : ∀ args,tab (TLrt n) n_entailref22_Text args = F_rText n args:=fun _=>rfl
 have c2 : ∀ args,tab (TLrt n) n_entailref22_quote args = F_quote args:=fun _=>rfl
 have c3 : ∀ args,tab (TLrt n) n_entailref1_Glue args = F_Glue args:=fun _=>rfl
 obtain ⟨k,t,ks,ls,ys,rfl,e1,e2,e3,h4,h5⟩:=h
 refine Eq.mpr (e_entailref22_Text _ _ (jn k t (ks.map V.str) ls)) ?_
 rw [ckJ,opt_s]
 simp only [cJ0,cJ1,cJ2,cJ3]
 refine loopP_inv (fun vs=>∃ i : Nat,vs = [.sl .ro ((ys.take i).map V.str),.int .i64 i] ∧ i ≤ ls.length) (fun vs=>ls.length - natOf (gv vs 1)) ⟨0,rfl,Nat.zero_le _⟩ ?_
 rintro r1 vs ⟨i,rfl,hi⟩ hnext
 refine ⟨rfl,?_⟩
 have g0 : ∀ x y : V,gv [x,y] 0 = x:=fun _ _=>rfl
 have g1 : ∀ x y : V,gv [x,y] 1 = y:=fun _ _=>rfl
 have hel : ∀ x y : Int,binK .eql (.int .i64 x) (.int .i64 y) = some (.bool (decide (x = y))):=fun _ _=>rfl
 have hls : ∀ x y : Int,binK .lss (.int .i64 x) (.int .i64 y) = some (.bool (decide (x < y))):=fun _ _=>rfl
 rw [lenAt,opt_s,g1,hls,opt_s]
 by_cases hk : i < ls.length
 ·have hlt : (i : Int) < (ls.length : Int):=by omega
  obtain ⟨xi,⟨k',t',ks',ls',ej,_⟩,hx,hy⟩:=h4 i hk
  have hge : ls[i]? = some (jn k' t' ks' ls'):=by rw [List.getElem?_eq_getElem hk,ej]
  rw [ej] at hx
  have hw : IntKind.i64.wrap ((i : Int) + 1) = ((i + 1 : Nat) : Int):=wrap_in (by omega) (by omega)
  have hadd : binK .add (.int .i64 (i : Int)) (.int .i64 1) = some (.int .i64 ((i + 1 : Nat) : Int)):=by rw [← hw]; rfl
  have hx' : F_rText n [jn k' t' ks' ls'] = some (.str xi):=hx
  rw [decide_eq_true hlt,itT,elAt hge,opt_s,c1,hx',opt_s,hel,opt_s,joinP_eq]
  have hlit : ∀ y : List UInt8,litK 1 [.str y] = some (.sl .ro [.str y]):=fun _=>rfl
  have htl : (ys.take i).length ≤ 200000:=by rw [List.length_take]; omega
  have hend : ∀ y,ys[i]? = some y → r1 [.sl .ro ((ys.take i ++ [y]).map V.str),.int .i64 ((i + 1 : Nat) : Int)]:=fun y hy=>hnext _ ⟨i + 1,by rw [List.take_add_one,hy]; rfl,hk⟩ (by show ls.length - (i + 1) < ls.length - i; omega)
  rcases hy with ⟨hk7,key,y1,y2,y3,y4⟩ | ⟨hk7,y4⟩
  ·rw [decide_eq_true hk7,itT,keyAt y1,opt_s,c2,F_quote_at y2,opt_s,catS (by simp only [List.length_cons,List.length_nil]; omega),opt_s,catS (by simp only [List.length_append,List.length_cons,List.length_nil]; omega),opt_s]
   refine ⟨rfl,?_⟩
   rw [g0,hlit,opt_s,g1,g0,app_strs htl,opt_s,hadd,opt_s]
   exact hend _ y4
  ·rw [decide_eq_false hk7,itF]
   refine ⟨rfl,?_⟩
   rw [g0,hlit,opt_s,g1,g0,app_strs htl,opt_s,hadd,opt_s]
   exact hend _ y4
 ·have hlt : ¬ (i : Int) < (ls.length : Int):=by omega
  have hie : i = ys.length:=by omega
  have hgl : F_Glue [.sl .ro (ys.map V.str),.str [44]] = some (.str (joinT ys)):=F_Glue_at (by omega) (by omega)
  rw [decide_eq_false hlt,itF,hel,opt_s,g0,hie,List.take_length,c3,hgl]
  rcases h5 with ⟨rfl,rfl⟩ | ⟨rfl,rfl⟩ | ⟨rfl,rfl⟩ | ⟨rfl,rfl⟩ | ⟨rfl,ht,rfl⟩ | ⟨rfl,rfl⟩ | ⟨rfl,rfl⟩
  ·rw [decide_eq_true rfl,itT]
  ·rw [decide_eq_false (by decide),itF,hel,opt_s,decide_eq_true rfl,itT]
  ·rw [decide_eq_false (by decide),itF,hel,opt_s,decide_eq_false (by decide),itF,hel,opt_s,decide_eq_true rfl,itT]
  ·rw [decide_eq_false (by decide),itF,hel,opt_s,decide_eq_false (by decide),itF,hel,opt_s,decide_eq_false (by decide),itF,hel,opt_s,decide_eq_true rfl,itT]
  ·rw [decide_eq_false (by decide),itF,hel,opt_s,decide_eq_false (by decide),itF,hel,opt_s,decide_eq_false (by decide),itF,hel,opt_s,decide_eq_false (by decide),itF,hel,opt_s,decide_eq_true rfl,itT,c2,F_quote_at ht,opt_s]
  ·rw [decide_eq_false (by decide),itF,hel,opt_s,decide_eq_false (by decide),itF,hel,opt_s,decide_eq_false (by decide),itF,hel,opt_s,decide_eq_false (by decide),itF,hel,opt_s,decide_eq_false (by decide),itF,hel,opt_s,decide_eq_true rfl,itT,opt_s,catS (by simp only [List.length_cons,List.length_nil]; omega),opt_s,catS (by simp only [List.length_append,List.length_cons,List.length_nil]; omega),opt_s]
  ·rw [decide_eq_false (by decide),itF,hel,opt_s,decide_eq_false (by decide),itF,hel,opt_s,decide_eq_false (by decide),itF,hel,opt_s,decide_eq_false (by decide),itF,hel,opt_s,decide_eq_false (by decide),itF,hel,opt_s,decide_eq_false (by decide),itF,opt_s,catS (by simp only [List.length_cons,List.length_nil]; omega),opt_s,catS (by simp only [List.length_append,List.length_cons,List.length_nil]; omega),opt_s]
attribute [local irreducible] FunWp FunWpE in
theorem ok_rText : ∀ n : Nat,SpecL Tryz.prog n_entailref22_Text (F_rText n)
 | 0=>by
  refine go_entailref22_Text (T:=[]) TabOk.nil fun args v hv=>?_
  unfold F_rText at hv
  split at hv
  ·split at hv
   ·simp only [Option.ite_none_right_eq_some] at hv
    exact hv.1.1.elim
   ·cases hv
  ·cases hv
 | n + 1=>by
  refine go_entailref22_Text (T:=TLrt n) (TabOk.cons (ok_rText n) (TabOk.cons ok_quote (TabOk.cons ok_Glue TabOk.nil))) fun args v hv=>?_
  unfold F_rText at hv
  split at hv
  ·split at hv
   ·rename_i a _ l hl
    simp only [Option.ite_none_right_eq_some,Option.some.injEq] at hv
    obtain ⟨⟨h1,h2,h3⟩,rfl⟩:=hv
    have hc:=good_cano (wf_good (show Wf n a l from h1) (by omega))
    exact ⟨rfl,by simp [canos,hc],rfl,rText_body (stp_wf (by omega) h1 h3)⟩
   ·cases hv
  ·cases hv
end Go.Fbs

namespace Go.Fbs
open Go.Proofs Go.RowKit
def txA : List (List UInt8):=[[],[97],[34],[92],[0],[9,10],[97,32,98],[127]]
def txB : List (List UInt8):=[[],[122],[47]]
def txtM (n : Int) : List UInt8:=txA.getD (n % 8).toNat [] ++ txB.getD ((n.fdiv 8 % 256).toNat % 3) []
theorem txtM_ok (n : Int) : Asc (txtM n) ∧ (txtM n).length ≤ 4:=by
 have h : ∀ (i : _root_.Fin 8) (j : _root_.Fin 3),(txA.getD i.val [] ++ txB.getD j.val []).all (fun c=>decide (c.toNat < 128)) = true ∧ (txA.getD i.val [] ++ txB.getD j.val []).length ≤ 4:=by decide
 obtain ⟨h1,h2⟩:=h ⟨(n % 8).toNat,by omega⟩ ⟨(n.fdiv 8 % 256).toNat % 3,Nat.mod_lt _ (by decide)⟩
 exact ⟨fun c hc=>by simpa using List.all_eq_true.1 h1 c hc,h2⟩
def F_lawText : Spec
 | [.int .i64 n]=>some (.str (txtM n))
 | _=>none
theorem remN (a : Nat) {m : Nat} (hm : 0 < m) : binK .rem (.int .i64 (a : Int)) (.int .i64 (m : Int)) = some (.int .i64 ((a % m : Nat) : Int)):=by
 simp only [binK,intBin,if_true]
 rw [if_neg (by omega)]
 rw [show ((a % m : Nat) : Int) = Int.tmod (a : Int) (m : Int) from rfl]
theorem tabAt {l : List (List UInt8)} {i : Nat} (h : i < l.length) : idxLK false 1 (.sl .ro (l.map V.str)) (.int .i64 (i : Nat)) = some (.str (l.getD i [])):=by
 rw [List.getD_eq_getElem?_getD,List.getElem?_eq_getElem h]
 exact keyAt (List.getElem?_eq_getElem h)
theorem shr3 (n : Int) : binK .shr (.int .i64 n) (.int .u64 3) = some (.int .i64 (n.fdiv 8)):=by
 have h:=shrM (a:=n) (b:=3) (by omega)
 have e : (2 : Int) ^ 3 = 8:=by decide
 rw [e] at h
 exact h
theorem shr8 (n : Int) : binK .shr (.int .i64 n) (.int .u64 8) = some (.int .i64 (n.fdiv 256)):=by
 have h:=shrM (a:=n) (b:=8) (by omega)
 have e : (2 : Int) ^ 8 = 256:=by decide
 rw [e] at h
 exact h
theorem rem3 (a : Nat) : binK .rem (.int .i64 (a : Int)) (.int .i64 3) = some (.int .i64 ((a % 3 : Nat) : Int)):=remN a (m:=3) (by decide)
theorem rem7 (a : Nat) : binK .rem (.int .i64 (a : Int)) (.int .i64 7) = some (.int .i64 ((a % 7 : Nat) : Int)):=remN a (m:=7) (by decide)
attribute [local irreducible] FunWp FunWpE in
theorem ok_lawText : SpecL Tryz.prog n_entaillaw22_Text F_lawText:=by
 refine go_entaillaw22_Text (T:=[]) TabOk.nil fun args v hv=>?_
 unfold F_lawText at hv
 split at hv <;> simp only [Option.some.injEq,reduceCtorEq] at hv
 rename_i n
 subst hv
 refine ⟨rfl,rfl,rfl,?_⟩
 refine Eq.mpr (e_entaillaw22_Text _ _ (.int .i64 n)) ?_
 have l1 : litK 1 [.str [],.str [97],.str [34],.str [92],.str [0],.str [9,10],.str [97,32,98],.str [127]] = some (.sl .ro (txA.map V.str)):=rfl
 have l2 : litK 1 [.str [],.str [122],.str [47]] = some (.sl .ro (txB.map V.str)):=rfl
 have hl:=(txtM_ok n).2
 unfold txtM at hl
 rw [l1,opt_s,andM n (j:=3) (c:=7) (m:=8) (by omega) rfl rfl,opt_s,tabAt (by show _ < 8; omega),opt_s,l2,opt_s,shr3,opt_s,andM _ (j:=8) (c:=255) (m:=256) (by omega) rfl rfl,opt_s,rem3,opt_s,tabAt (l:=txB) (i:=(n.fdiv 8 % ((256 : Nat) : Int)).toNat % 3) (show _ < 3 from Nat.mod_lt _ (by decide)),opt_s,catS (by rw [List.length_append] at hl; exact Nat.le_trans hl (by decide)),opt_s]
 rfl
def isI : V → Bool
 | .int .i64 _=>true
 | _=>false
def intV : V → Int
 | .int _ k=>k
 | _=>0
theorem isI_inv {e : V} (h : isI e = true) : e = .int .i64 (intV e):=by
 unfold isI at h
 split at h
 ·rfl
 ·cases h
def kindN (n : Int) : Nat:=(n % 256).toNat % 7 + 1
def nmA : List (List UInt8):=[[48],[45,48],[49],[49,50,46,53,48],[49,101,57],[45,51,69,45,50],[48,46,53,101,43,55]]
def nmM (n : Int) : List UInt8:=nmA.getD ((n.fdiv 256 % 256).toNat % 7) []
def keyA : List (List UInt8):=[[97],[98],[99],[10]]
def cntM (n : Int) : Nat:=(n.fdiv 256 % 4).toNat
theorem cnt_lt (n : Int) : cntM n < 4:=by unfold cntM; omega
def rowM (f : List V → V × List V) : Nat → List V → List V × List V
 | 0,l=>([],l)
 | i + 1,l=>((rowM f i l).1 ++ [(f (rowM f i l).2).1],(f (rowM f i l).2).2)
def stepM (n : Int) (l : List V) (row : List V × List V) : V × List V :=
 if kindN n = 4 then (jn 4 (nmM n) [] [],l)
 else if kindN n = 5 then (jn 5 (txtM (n.fdiv 256)) [] [],l)
 else if kindN n = 6 then (jn 6 [] [] row.1,row.2)
 else if kindN n = 7 then (jn 7 [] ((keyA.take row.1.length).map V.str) row.1,row.2)
 else (jn (kindN n) [] [] [],l)
def madeM : Nat → List V → V × List V
 | _,[]=>(jn 1 [] [] [],[])
 | 0,e :: l=>stepM (intV e) l ([],l)
 | d + 1,e :: l=>stepM (intV e) l (rowM (fun x=>madeM d x) (cntM (intV e)) l)
def LB : Nat → Nat
 | 0=>30
 | d + 1=>4 * LB d + 60
theorem nm_ok (n : Int) : NumS (nmM n) ∧ (nmM n).length ≤ 7:=by
 unfold nmM
 have hlt : (n.fdiv 256 % 256).toNat % 7 < 7:=Nat.mod_lt _ (by decide)
 generalize (n.fdiv 256 % 256).toNat % 7 = i at hlt
 have d1 : ∀ l : List UInt8,l ≠ [] ∧ l.all (fun c=>digitL.contains c) = true → Digs l:=fun l h=>⟨h.1,fun c hc=>List.all_eq_true.1 h.2 c hc⟩
 match i,hlt with
 | 0,_=>exact ⟨⟨[],[48],[],[],rfl,.inl rfl,.inl rfl,.inl rfl,.inl rfl⟩,by decide⟩
 | 1,_=>exact ⟨⟨[45],[48],[],[],rfl,.inr rfl,.inl rfl,.inl rfl,.inl rfl⟩,by decide⟩
 | 2,_=>exact ⟨⟨[],[49],[],[],rfl,.inl rfl,.inr ⟨d1 _ (by decide),fun r h=>by cases h⟩,.inl rfl,.inl rfl⟩,by decide⟩
 | 3,_=>exact ⟨⟨[],[49,50],[46,53,48],[],rfl,.inl rfl,.inr ⟨d1 _ (by decide),fun r h=>by cases h⟩,.inr ⟨[53,48],rfl,d1 _ (by decide)⟩,.inl rfl⟩,by decide⟩
 | 4,_=>exact ⟨⟨[],[49],[],[101,57],rfl,.inl rfl,.inr ⟨d1 _ (by decide),fun r h=>by cases h⟩,.inl rfl,.inr ⟨101,[],[57],rfl,.inl rfl,.inl rfl,d1 _ (by decide)⟩⟩,by decide⟩
 | 5,_=>exact ⟨⟨[45],[51],[],[69,45,50],rfl,.inr rfl,.inr ⟨d1 _ (by decide),fun r h=>by cases h⟩,.inl rfl,.inr ⟨69,[45],[50],rfl,.inr rfl,.inr (.inr rfl),d1 _ (by decide)⟩⟩,by decide⟩
 | 6,_=>exact ⟨⟨[],[48],[46,53],[101,43,55],rfl,.inl rfl,.inl rfl,.inr ⟨[53],rfl,d1 _ (by decide)⟩,.inr ⟨101,[43],[55],rfl,.inl rfl,.inr (.inl rfl),d1 _ (by decide)⟩⟩,by decide⟩
theorem join_bound {B : Nat} : ∀ ys : List (List UInt8),(∀ y ∈ ys,y.length ≤ B) → (joinT ys).length ≤ ys.length * (B + 1)
 | [],_=>by simp [joinT]
 | [y],h=>by
  have:=h y (by simp)
  show y.length ≤ 1 * (B + 1)
  omega
 | y :: z :: r,h=>by
  have h1:=h y (by simp)
  have h2:=join_bound (z :: r) fun x hx=>h x (List.mem_cons_of_mem _ hx)
  simp only [joinT,List.length_append,List.length_cons,List.length_nil,Nat.add_mul] at h2 ⊢
  omega
def MadeOk (d : Nat) (es : List V) (r : V × List V) : Prop:=(∃ x,Wf (d + 1) r.1 x ∧ x.length ≤ LB d) ∧ r.2.all isI = true ∧ r.2.length ≤ es.length
theorem leaf_mk {d : Nat} {es l : List V} {v : V} {x : List UInt8} (h : Leaf v x) (hx : x.length ≤ 30) (hl : l.all isI = true) (h2 : l.length ≤ es.length) : MadeOk d es (v,l):=by
 refine ⟨⟨x,leaf_wf h,?_⟩,hl,h2⟩
 have : 30 ≤ LB d:=by cases d with | zero=>exact Nat.le_refl _ | succ d=>show 30 ≤ 4 * LB d + 60; omega
 omega
theorem key_ok : ∀ k ∈ keyA,Asc k ∧ (quoT k).length ≤ 8:=by
 intro k hk
 simp only [keyA,List.mem_cons,List.not_mem_nil,or_false] at hk
 rcases hk with rfl | rfl | rfl | rfl <;> exact ⟨fun c hc=>by rw [List.mem_singleton.1 hc]; decide,by decide⟩
theorem step_ok {d : Nat} {n : Int} {e : V} {l : List V} {row : List V × List V} (hl : l.all isI = true) (hr : ∃ q : List (V × List UInt8),row.1 = q.map (·.1) ∧ q.length ≤ 3 ∧ (∀ z ∈ q,Wf d z.1 z.2 ∧ z.2.length + 15 ≤ LB d / 4)) (h1 : row.2.all isI = true) (h2 : row.2.length ≤ l.length) (hL : d = 0 → row.1 = []) : MadeOk d (e :: l) (stepM n l row):=by
 have h30 : 30 ≤ LB d:=by cases d with | zero=>exact Nat.le_refl _ | succ d=>show 30 ≤ 4 * LB d + 60; omega
 have hll : l.length ≤ (e :: l).length:=by simp
 have hrl : row.2.length ≤ (e :: l).length:=by simp; omega
 obtain ⟨q,q1,q2,q3⟩:=hr
 have hk : kindN n = 1 ∨ kindN n = 2 ∨ kindN n = 3 ∨ kindN n = 4 ∨ kindN n = 5 ∨ kindN n = 6 ∨ kindN n = 7:=by unfold kindN; omega
 unfold stepM
 rcases hk with hk | hk | hk | hk | hk | hk | hk <;> rw [hk]
 ·exact leaf_mk (.inl ⟨rfl,rfl⟩) (by decide) hl hll
 ·exact leaf_mk (.inr (.inl ⟨rfl,rfl⟩)) (by decide) hl hll
 ·exact leaf_mk (.inr (.inr (.inl ⟨rfl,rfl⟩))) (by decide) hl hll
 ·have:=nm_ok n
  exact leaf_mk (.inr (.inr (.inr (.inl ⟨this.1,rfl⟩)))) (by omega) hl hll
 ·have:=txtM_ok (n.fdiv 256)
  have h3:=quoT_len (txtM (n.fdiv 256))
  have h4:=quo_len (txtM (n.fdiv 256))
  exact leaf_mk (.inr (.inr (.inr (.inr ⟨_,this.1,rfl,rfl⟩)))) (by omega) hl hll
 ·refine ⟨⟨[91] ++ joinT (q.map (·.2)) ++ [93],.inr (.inl ⟨q,fun z hz=>(q3 z hz).1,by show jn 6 [] [] row.1 = _; rw [q1],rfl⟩),?_⟩,h1,hrl⟩
  have hb:=join_bound (B:=LB d / 4 - 15) (q.map (·.2)) (fun y hy=>by obtain ⟨z,hz,rfl⟩:=List.mem_map.1 hy; have:=(q3 z hz).2; omega)
  rw [List.length_map] at hb
  simp only [List.length_append,List.length_cons,List.length_nil]
  have : q.length * (LB d / 4 - 15 + 1) ≤ 3 * (LB d / 4 - 15 + 1):=Nat.mul_le_mul_right _ q2
  omega
 ·have hz : List.length keyA = 4:=rfl
  have hzip : ∀ (q : List (V × List UInt8)) (ks : List (List UInt8)),q.length ≤ ks.length → (List.zip ks q).map (·.1) = ks.take q.length ∧ (List.zip ks q).map (fun z=>z.2.1) = q.map (·.1) ∧ ∀ z ∈ List.zip ks q,z.1 ∈ ks ∧ z.2 ∈ q:=by
   intro q
   induction q with
   | nil=>intro ks _; exact ⟨by simp,by simp,fun z hz=>by simp at hz⟩
   | cons a q ih =>
    intro ks hks
    cases ks with
    | nil=>simp at hks
    | cons b ks =>
     obtain ⟨i1,i2,i3⟩:=ih ks (by simpa using hks)
     refine ⟨by simp [i1],by simp [i2],fun z hz=>?_⟩
     rcases List.mem_cons.1 hz with rfl | hz
     ·exact ⟨List.mem_cons_self ..,List.mem_cons_self ..⟩
     ·exact ⟨List.mem_cons_of_mem _ (i3 z hz).1,List.mem_cons_of_mem _ (i3 z hz).2⟩
  obtain ⟨z1,z2,z3⟩:=hzip q keyA (by omega)
  have hnd : (keyA.take q.length).Nodup:=by
   have : keyA.Nodup:=by decide
   exact this.sublist (List.take_sublist _ _)
  refine ⟨⟨[123] ++ joinT ((List.zip keyA q).map fun q=>quoT q.1 ++ [58] ++ q.2.2) ++ [125],.inr (.inr ⟨List.zip keyA q,fun z hz=>⟨(key_ok _ (z3 z hz).1).1,(q3 _ (z3 z hz).2).1⟩,by rw [z1]; exact hnd,?_,rfl⟩),?_⟩,h1,hrl⟩
  ·show jn 7 [] ((keyA.take row.1.length).map V.str) row.1 = _
   rw [z1,z2,q1,List.length_map]
  ·have hb:=join_bound (B:=LB d / 4 - 5) ((List.zip keyA q).map fun q=>quoT q.1 ++ [58] ++ q.2.2) (fun y hy=>by
    obtain ⟨z,hz,rfl⟩:=List.mem_map.1 hy
    have h5:=(q3 _ (z3 z hz).2).2
    have h6:=(key_ok _ (z3 z hz).1).2
    simp only [List.length_append,List.length_cons,List.length_nil]; omega)
   have hzl : (List.zip keyA q).length ≤ 3:=by rw [List.length_zip]; omega
   rw [List.length_map] at hb
   simp only [List.length_append,List.length_cons,List.length_nil]
   have : (List.zip keyA q).length * (LB d / 4 - 5 + 1) ≤ 3 * (LB d / 4 - 5 + 1):=Nat.mul_le_mul_right _ hzl
   by_cases hd : q = []
   ·subst hd; simp [joinT]; omega
   ·obtain ⟨a,r,rfl⟩:=List.exists_cons_of_ne_nil hd
    have:=(q3 a (List.mem_cons_self ..)).2
    omega
theorem row_ok {d : Nat} (hM : ∀ es : List V,es.all isI = true → MadeOk d es (madeM d es)) : ∀ (i : Nat) (l : List V),l.all isI = true → ((∃ q : List (V × List UInt8),(rowM (fun x=>madeM d x) i l).1 = q.map (·.1) ∧ q.length = i ∧ (∀ z ∈ q,Wf (d + 1) z.1 z.2 ∧ z.2.length ≤ LB d)) ∧ (rowM (fun x=>madeM d x) i l).2.all isI = true ∧ (rowM (fun x=>madeM d x) i l).2.length ≤ l.length)
 | 0,l,h=>⟨⟨[],rfl,rfl,fun z hz=>by cases hz⟩,h,Nat.le_refl _⟩
 | i + 1,l,h=>by
  obtain ⟨⟨q,q1,q2,q3⟩,r1,r2⟩:=row_ok hM i l h
  obtain ⟨⟨x,x1,x2⟩,m1,m2⟩:=hM _ r1
  refine ⟨⟨q ++ [((madeM d (rowM (fun x=>madeM d x) i l).2).1,x)],?_,by simp [q2],fun z hz=>?_⟩,m1,Nat.le_trans m2 r2⟩
  ·show (rowM (fun x=>madeM d x) i l).1 ++ [(madeM d (rowM (fun x=>madeM d x) i l).2).1] = _
   rw [q1]; simp
  ·rcases List.mem_append.1 hz with hz | hz
   ·exact q3 z hz
   ·rw [List.mem_singleton.1 hz]; exact ⟨x1,x2⟩
theorem made_ok : ∀ (d : Nat) (es : List V),es.all isI = true → MadeOk d es (madeM d es)
 | d,[],_=>by
  have e : madeM d [] = (jn 1 [] [] [],[]):=by cases d <;> rfl
  rw [e]
  exact leaf_mk (.inl ⟨rfl,rfl⟩) (by decide) rfl (Nat.le_refl _)
 | 0,e :: l,h=>by
  have hl : l.all isI = true:=by rw [List.all_cons,Bool.and_eq_true] at h; exact h.2
  exact step_ok hl ⟨[],rfl,by decide,fun z hz=>by cases hz⟩ hl (Nat.le_refl _) fun _=>rfl
 | d + 1,e :: l,h=>by
  have hl : l.all isI = true:=by rw [List.all_cons,Bool.and_eq_true] at h; exact h.2
  obtain ⟨⟨q,q1,q2,q3⟩,r1,r2⟩:=row_ok (made_ok d) (cntM (intV e)) l hl
  have hc:=cnt_lt (intV e)
  exact step_ok hl ⟨q,q1,by omega,fun z hz=>⟨(q3 z hz).1,by have:=(q3 z hz).2; show _ ≤ (4 * LB d + 60) / 4; omega⟩⟩ r1 r2 fun h0=>by cases h0
end Go.Fbs

namespace Go.Fbs
open Go.Proofs Go.RowKit
def F_Made (D : Nat) : Spec
 | [.sl .ro es,.int .i64 d]=>if d = D ∧ es.all isI = true ∧ es.length ≤ es.length then some (.tup [(madeM D es).1,.sl .ro (madeM D es).2]) else none
 | _=>none
theorem F_Made_at {D : Nat} {es : List V} (h : es.all isI = true) (hl : es.length ≤ es.length) : F_Made D [.sl .ro es,.int .i64 (D : Nat)] = some (.tup [(madeM D es).1,.sl .ro (madeM D es).2]):=if_pos ⟨rfl,h,hl⟩
theorem ints_cano : ∀ {es : List V},es.all isI = true → canos es = true:=fun {es} h=>canos_iff.2 fun e he=>by
 rw [isI_inv (List.all_eq_true.1 h e he)]; rfl
theorem int_at {e : V} {l : List V} (h : isI e = true) : idxLK false 1 (.sl .ro (e :: l)) (.int .i64 0) = some (.int .i64 (intV e)):=by
 rw [isI_inv h]; rfl
theorem int_rest {e : V} {l : List V} (h : (e :: l).all isI = true) : slLK 1 (.sl .ro (e :: l)) (some (.int .i64 1)) none = some (.sl .ro l):=by
 have h1 : (e :: l).all (fun e=>e.cells.length == 1) = true:=List.all_eq_true.2 fun x hx=>by
  rw [isI_inv (List.all_eq_true.1 h x hx)]; rfl
 unfold slLK boundV
 dsimp only
 rw [if_pos ⟨by decide,by rw [List.length_cons]; omega⟩]
 dsimp only
 rw [if_pos h1]
 congr 2
 simp
theorem app_js {ls : List V} {v : V} (hl : ls.length ≤ 10) (h : ∀ e ∈ ls,Good e) (hv : Good v) : appK 4 72 (.sl .ro ls) (.sl .ro [v]) = some (.sl .ro (ls ++ [v])):=by
 refine app_s (by simp; omega) (List.all_eq_true.2 fun e he=>?_) ?_
 ·obtain ⟨k,t,ks,l,rfl,_⟩:=h e he; rfl
 ·obtain ⟨k,t,ks,l,rfl,_⟩:=hv; rfl
theorem lit_j {v : V} (hv : Good v) : litK 4 [v] = some (.sl .ro [v]):=by
 obtain ⟨k,t,ks,l,rfl,_⟩:=hv; rfl
theorem ck_j {v : V} (hv : Good v) : chkK 4 v = some v:=by
 obtain ⟨k,t,ks,l,rfl,_⟩:=hv; rfl
theorem LB_le : ∀ d : Nat,d ≤ 5 → LB d ≤ 100000:=by
 intro d hd
 have h : ∀ d : _root_.Fin 6,LB d.val ≤ 100000:=by decide
 exact h ⟨d,by omega⟩
theorem made_good {d : Nat} (hd : d ≤ 5) {es : List V} (h : es.all isI = true) : Good (madeM d es).1:=by
 obtain ⟨⟨x,h1,h2⟩,_⟩:=made_ok d es h
 have:=LB_le d hd
 exact wf_good h1 (by omega)
theorem row_good {d : Nat} (hd : d ≤ 5) (i : Nat) {l : List V} (h : l.all isI = true) : (∀ e ∈ (rowM (fun x=>madeM d x) i l).1,Good e) ∧ (rowM (fun x=>madeM d x) i l).1.length = i ∧ (rowM (fun x=>madeM d x) i l).2.all isI = true ∧ (rowM (fun x=>madeM d x) i l).2.length ≤ l.length:=by
 obtain ⟨⟨q,q1,q2,q3⟩,r1,r2⟩:=row_ok (made_ok d) i l h
 have:=LB_le d hd
 refine ⟨fun e he=>?_,by rw [q1,List.length_map,q2],r1,r2⟩
 rw [q1] at he
 obtain ⟨z,hz,rfl⟩:=List.mem_map.1 he
 obtain ⟨h1,h2⟩:=q3 z hz
 exact wf_good h1 (by omega)
def rowD : Nat → Nat → List V → List V × List V
 | 0,_,l=>([],l)
 | d + 1,i,l=>rowM (fun x=>madeM d x) i l
theorem made_cons (D : Nat) (e : V) (l : List V) : madeM D (e :: l) = stepM (intV e) l (rowD D (cntM (intV e)) l):=by cases D <;> rfl
attribute [local irreducible] FunWp FunWpE in
theorem made_body {T : List (FuncId × Spec)} {D : Nat} (hD : D ≤ 5) (cT : ∀ n,tab T n_entaillaw22_Text [.int .i64 n] = some (.str (txtM n))) (cM : ∀ d,D = d + 1 → ∀ es,es.all isI = true → es.length ≤ es.length → tab T n_entaillaw22_Made [.sl .ro es,.int .i64 (d : Nat)] = some (.tup [(madeM d es).1,.sl .ro (madeM d es).2])) {es : List V} (h : es.all isI = true) (hl : es.length ≤ es.length) :
  FunWp tyT (tab T) 84 q_entaillaw22_Made [.cell 4 27,.tmp 5] (cB Tryz.f13) [.sl .ro es,.int .i64 (D : Nat)] (fun r=>r = .tup [(madeM D es).1,.sl .ro (madeM D es).2]):=by
 refine Eq.mpr (e_entaillaw22_Made _ _ (.sl .ro es) (.int .i64 (D : Nat))) ?_
 have hel : ∀ x y : Int,binK .eql (.int .i64 x) (.int .i64 y) = some (.bool (decide (x = y))):=fun _ _=>rfl
 have hls : ∀ x y : Int,binK .lss (.int .i64 x) (.int .i64 y) = some (.bool (decide (x < y))):=fun _ _=>rfl
 have hgt : ∀ x y : Int,binK .gtr (.int .i64 x) (.int .i64 y) = some (.bool (decide (x > y))):=fun _ _=>rfl
 have ag : ∀ (k : Int) (t : List UInt8) (a b : List V),aggK [.int .i64 k,.str t,.sl .ro a,.sl .ro b] = some (jn k t a b):=fun _ _ _ _=>rfl
 rw [lenAt,opt_s,hel,opt_s]
 cases es with
 | nil =>
  have e : madeM D [] = (jn 1 [] [] [],[]):=by cases D <;> rfl
  rw [decide_eq_true (by rfl),itT,ag,opt_s,cJ0,cJ1,ag,opt_s,e]
 | cons e l =>
  have hl1 : l.all isI = true:=by rw [List.all_cons,Bool.and_eq_true] at h; exact h.2
  have he : isI e = true:=by rw [List.all_cons,Bool.and_eq_true] at h; exact h.1
  rw [List.length_cons] at hl
  rw [made_cons,decide_eq_false (by rw [List.length_cons]; omega),itF,int_at he,opt_s,int_rest h,opt_s]
  generalize intV e = n
  have hkn : IntKind.i64.wrap (((n % ((256 : Nat) : Int)).toNat % 7 : Nat) + 1 : Int) = (kindN n : Int):=by
   rw [wrap_in (by omega) (by omega)]; unfold kindN; omega
  have hadd : binK .add (.int .i64 (((n % ((256 : Nat) : Int)).toNat % 7 : Nat) : Int)) (.int .i64 1) = some (.int .i64 (kindN n : Int)):=by rw [← hkn]; rfl
  rw [andM n (j:=8) (c:=255) (m:=256) (by omega) rfl rfl,opt_s,rem7,opt_s,hadd,opt_s,ag,opt_s]
  rw [cJ0,cJ1,hel,opt_s]
  by_cases h4 : kindN n = 4
  ·have l1 : litK 1 [.str [48],.str [45,48],.str [49],.str [49,50,46,53,48],.str [49,101,57],.str [45,51,69,45,50],.str [48,46,53,101,43,55]] = some (.sl .ro (nmA.map V.str)):=rfl
   rw [decide_eq_true (by omega),itT,l1,opt_s,shr8,opt_s,andM _ (j:=8) (c:=255) (m:=256) (by omega) rfl rfl,opt_s,rem7,opt_s,tabAt (l:=nmA) (i:=(n.fdiv 256 % ((256 : Nat) : Int)).toNat % 7) (show _ < 7 from Nat.mod_lt _ (by decide)),opt_s,ag,opt_s]
   unfold stepM
   rw [if_pos h4,h4]; rfl
  rw [decide_eq_false (by omega),itF,hel,opt_s]
  by_cases h5 : kindN n = 5
  ·rw [decide_eq_true (by omega),itT,shr8,opt_s,cT,opt_s,show chk1K (.str (txtM (n.fdiv 256))) = some (.str (txtM (n.fdiv 256))) from rfl,opt_s,ag,opt_s]
   unfold stepM
   rw [if_neg h4,if_pos h5,h5]; rfl
  rw [decide_eq_false (by omega),itF,hel,opt_s]
  refine joinP_inv (fun w=>w = [.bool (decide (kindN n = 6 ∨ kindN n = 7))]) (fun w hw=>?_) fun r0 hr0=>?_
  case refine_2 =>
   by_cases h6 : kindN n = 6
   ·rw [decide_eq_true (by omega),itT]
    exact hr0 _ (by rw [decide_eq_true (.inl h6)])
   ·rw [decide_eq_false (by omega),itF,hel,opt_s]
    refine hr0 _ ?_
    congr 2
    exact decide_eq_decide.2 ⟨fun h=>.inr (by omega),fun h=>by rcases h with h | h; exact absurd h h6; omega⟩
  subst hw
  refine ⟨rfl,?_⟩
  rw [show gv [V.bool (decide (kindN n = 6 ∨ kindN n = 7))] 0 = V.bool (decide (kindN n = 6 ∨ kindN n = 7)) from rfl]
  by_cases h67 : kindN n = 6 ∨ kindN n = 7
  ·rw [decide_eq_true h67,itT]
   have g0 : ∀ x y z u : V,gv [x,y,z,u] 0 = x:=fun _ _ _ _=>rfl
   have g1 : ∀ x y z u : V,gv [x,y,z,u] 1 = y:=fun _ _ _ _=>rfl
   have g2 : ∀ x y z u : V,gv [x,y,z,u] 2 = z:=fun _ _ _ _=>rfl
   have g3 : ∀ x y z u : V,gv [x,y,z,u] 3 = u:=fun _ _ _ _=>rfl
   have hc4:=cnt_lt n
   have hcd : ((n.fdiv 256 % ((4 : Nat) : Int)).toNat : Int) = (cntM n : Int):=rfl
   refine loopP_inv (fun vs=>∃ i : Nat,vs = [.sl .ro (rowD D i l).2,.int .i64 i,.sl .ro (rowD D i l).1,.sl .ro ((if kindN n = 7 then keyA.take i else []).map V.str)] ∧ i ≤ cntM n ∧ (D = 0 → i = 0)) (fun vs=>cntM n - natOf (gv vs 1)) ⟨0,by cases D <;> simp [rowD,rowM],Nat.zero_le _,fun _=>rfl⟩ ?_
   rintro r1 vs ⟨i,rfl,hi,h0⟩ hnext
   refine ⟨rfl,?_⟩
   rw [shr8,opt_s,andM _ (j:=2) (c:=3) (m:=4) (by omega) rfl rfl,opt_s,hcd,g1,hls,opt_s,hgt,opt_s]
   have pk2 : ∀ a b : Bool,pickV (.bool a) (.bool b) (.bool false) = some (.bool (a && b)):=fun a b=>by cases a <;> rfl
   rw [pk2,opt_s]
   by_cases hk : i < cntM n ∧ 0 < D
   ·obtain ⟨d,rfl⟩ : ∃ d,D = d + 1:=⟨D - 1,by omega⟩
    obtain ⟨w1,w2,w3,w4⟩:=row_good (d:=d) (by omega) i hl1
    have hgd:=made_good (d:=d) (by omega) w3
    have hsub : binK .sub (.int .i64 ((d + 1 : Nat) : Int)) (.int .i64 1) = some (.int .i64 (d : Nat)):=by
     show some (V.int .i64 (IntKind.i64.wrap (((d + 1 : Nat) : Int) - 1))) = _
     rw [wrap_in (by omega) (by omega)]
     congr 2; omega
    have hadd1 : binK .add (.int .i64 (i : Int)) (.int .i64 1) = some (.int .i64 ((i + 1 : Nat) : Int)):=by
     show some (V.int .i64 (IntKind.i64.wrap ((i : Int) + 1))) = _
     rw [wrap_in (by omega) (by omega)]; rfl
    have hm:=cM d rfl _ w3 (by omega)
    have hr2 : (rowD (d + 1) i l).2 = (rowM (fun x=>madeM d x) i l).2:=rfl
    have hr1 : (rowD (d + 1) i l).1 = (rowM (fun x=>madeM d x) i l).1:=rfl
    rw [decide_eq_true (show (i : Int) < (cntM n : Int) by omega),decide_eq_true (show ((d + 1 : Nat) : Int) > 0 by omega),show (true && true) = true from rfl,itT,ag,opt_s,hsub,opt_s,g0,hr2,hm,opt_s,ex0,opt_s,ex1,opt_s,ck_j hgd,opt_s,lit_j hgd,opt_s,g2,hr1,app_js (by omega) w1 hgd,opt_s,hel,opt_s]
    by_cases h7 : kindN n = 7
    ·have l3 : litK 1 [.str [97],.str [98],.str [99],.str [10]] = some (.sl .ro (keyA.map V.str)):=rfl
     have hil : i < keyA.length:=by show i < 4; omega
     have hlit : ∀ y : List UInt8,litK 1 [.str y] = some (.sl .ro [.str y]):=fun _=>rfl
     have htk : keyA.take (i + 1) = keyA.take i ++ [keyA.getD i []]:=by
      rw [List.take_add_one,List.getD_eq_getElem?_getD,List.getElem?_eq_getElem hil]; rfl
     rw [decide_eq_true (by omega),itT,l3,opt_s,tabAt hil,opt_s,hlit,opt_s,g3,if_pos h7,app_strs (by rw [List.length_take]; omega),opt_s,hadd1,opt_s]
     refine hnext _ ⟨i + 1,?_,by omega,fun h=>by omega⟩ (by show cntM n - (i + 1) < cntM n - i; omega)
     rw [if_pos h7,htk]; rfl
    ·rw [decide_eq_false (by omega),itF,hadd1,opt_s,g3,if_neg h7]
     refine hnext _ ⟨i + 1,?_,by omega,fun h=>by omega⟩ (by show cntM n - (i + 1) < cntM n - i; omega)
     rw [if_neg h7]; rfl
   ·have hf : (decide ((i : Int) < (cntM n : Int)) && decide (((D : Nat) : Int) > 0)) = false:=by
     rw [Bool.and_eq_false_iff,decide_eq_false_iff_not,decide_eq_false_iff_not]
     omega
    have hrow : rowD D i l = rowD D (cntM n) l:=by
     cases D with
     | zero=>rfl
     | succ d=>rw [show i = cntM n by omega]
    have hrl : (rowD D (cntM n) l).1.length = i:=by
     rw [← hrow]
     cases D with
     | zero=>rw [h0 rfl]; rfl
     | succ d=>exact (row_good (d:=d) (by omega) i hl1).2.1
    rw [hf,itF,g0,g2,g3,ag,opt_s,hrow]
    unfold stepM
    rcases h67 with h6 | h7
    ·rw [if_neg h4,if_neg h5,if_pos h6,if_neg (show ¬ kindN n = 7 by omega),h6]; rfl
    ·rw [if_neg h4,if_neg h5,if_neg (show ¬ kindN n = 6 by omega),if_pos h7,if_pos h7,h7,hrl]; rfl
  ·rw [decide_eq_false h67,itF,ag,opt_s]
   unfold stepM
   rw [if_neg h4,if_neg h5,if_neg fun h=>h67 (.inl h),if_neg fun h=>h67 (.inr h)]
attribute [local irreducible] FunWp FunWpE in
theorem ok_Made : ∀ D : Nat,D ≤ 5 → SpecL Tryz.prog n_entaillaw22_Made (F_Made D)
 | 0,_=>by
  refine go_entaillaw22_Made (T:=[(n_entaillaw22_Text,F_lawText)]) (TabOk.cons ok_lawText TabOk.nil) fun args v hv=>?_
  unfold F_Made at hv
  split at hv <;> simp only [Option.ite_none_right_eq_some,Option.some.injEq,reduceCtorEq] at hv
  obtain ⟨⟨rfl,h1,h2⟩,rfl⟩:=hv
  have hm:=made_ok 0 _ h1
  refine ⟨rfl,by simp [canos,V.cano,ints_cano h1],by simp [canos,V.cano,good_cano (made_good (d:=0) (by omega) h1),ints_cano hm.2.1],?_⟩
  exact made_body (D:=0) (by omega) (fun n=>rfl) (fun d hd=>by omega) h1 h2
 | d + 1,hd=>by
  refine go_entaillaw22_Made (T:=[(n_entaillaw22_Text,F_lawText),(n_entaillaw22_Made,F_Made d)]) (TabOk.cons ok_lawText (TabOk.cons (ok_Made d (by omega)) TabOk.nil)) fun args v hv=>?_
  unfold F_Made at hv
  split at hv <;> simp only [Option.ite_none_right_eq_some,Option.some.injEq,reduceCtorEq] at hv
  obtain ⟨⟨rfl,h1,h2⟩,rfl⟩:=hv
  have hm:=made_ok (d + 1) _ h1
  have cM : ∀ args,tab [(n_entaillaw22_Text,F_lawText),(n_entaillaw22_Made,F_Made d)] n_entaillaw22_Made args = F_Made d args:=fun _=>rfl
  refine ⟨rfl,by simp [canos,V.cano,ints_cano h1],by simp [canos,V.cano,good_cano (made_good hd h1),ints_cano hm.2.1],?_⟩
  exact made_body hd (fun n=>rfl) (fun d' hd' es g1 g2=>by obtain rfl : d = d':=(by omega); rw [cM]; exact F_Made_at g1 g2) h1 h2
end Go.Fbs

namespace Go.Fbs
open Go.Proofs Go.RowKit
def tkA : List (List UInt8):=[[91],[93],[123],[125],[44],[58],[34,97,34],[34,98,34],[49],[45,50,46,53,101,43,49],[110,117,108,108],[116,114,117,101],[102,97,108,115,101],[32],[34,92,117,48,48],[34,92,110,34],[48],[91,91],[93,93],[34,97,34,58],[91,49,44],[123,34,97,34,58],[116,114,117],[34]]
def tkM (c : UInt8) : List UInt8:=tkA.getD (c.toNat % 24) []
def tameM (s : List UInt8) : List UInt8:=(s.take 80).flatMap tkM
theorem tk_len (c : UInt8) : (tkM c).length ≤ 8:=by
 have h : ∀ i : _root_.Fin 24,(tkA.getD i.val []).length ≤ 8:=by decide
 exact h ⟨c.toNat % 24,Nat.mod_lt _ (by decide)⟩
theorem tks_len : ∀ s : List UInt8,(s.flatMap tkM).length ≤ 8 * s.length
 | []=>Nat.le_refl _
 | c :: s=>by
  have h1:=tk_len c
  have h2:=tks_len s
  rw [List.flatMap_cons,List.length_append,List.length_cons]; omega
theorem tame_len (s : List UInt8) : (tameM s).length ≤ 640:=by
 have:=tks_len (s.take 80)
 rw [List.length_take] at this
 unfold tameM; omega
def F_Tame : Spec
 | [.str s]=>if s.length ≤ 1000000 then some (.str (tameM s)) else none
 | _=>none
theorem and255 : ∀ c : UInt8,binK .and (.int .u8 (c.toNat : Int)) (.int .u8 255) = some (.int .u8 (c.toNat : Int)):=by
 have h : ∀ q : _root_.Fin 256,isU8 (binK .and (.int .u8 (q.val : Int)) (.int .u8 255)) (q.val : Int) = true:=by decide +kernel
 intro c
 exact isU8_inv (h ⟨c.toNat,c.toNat_lt⟩)
theorem rem24 : ∀ c : UInt8,binK .rem (.int .u8 (c.toNat : Int)) (.int .u8 24) = some (.int .u8 ((c.toNat % 24 : Nat) : Int)):=by
 have h : ∀ q : _root_.Fin 256,isU8 (binK .rem (.int .u8 (q.val : Int)) (.int .u8 24)) ((q.val % 24 : Nat) : Int) = true:=by decide +kernel
 intro c
 exact isU8_inv (h ⟨c.toNat,c.toNat_lt⟩)
theorem tabAt8 {l : List (List UInt8)} {i : Nat} (h : i < l.length) : idxLK false 1 (.sl .ro (l.map V.str)) (.int .u8 (i : Nat)) = some (.str (l.getD i [])):=by
 have e : (l.map V.str)[i]? = some (.str (l.getD i [])):=by
  rw [List.getElem?_map,List.getD_eq_getElem?_getD,List.getElem?_eq_getElem h]; rfl
 exact idxL_one e rfl 1 .u8
theorem pk2 (a b : Bool) : pickV (.bool a) (.bool b) (.bool false) = some (.bool (a && b)):=by cases a <;> rfl
theorem lssI (x y : Int) : binK .lss (.int .i64 x) (.int .i64 y) = some (.bool (decide (x < y))):=rfl
theorem eqlI (x y : Int) : binK .eql (.int .i64 x) (.int .i64 y) = some (.bool (decide (x = y))):=rfl
theorem neqI (x : Int) : binK .neq (.int .i64 x) (.int .i64 x) = some (.bool false):=by simp only [sS,if_true,if_false,reduceCtorEq]; simp
theorem neqS (x : List UInt8) : binK .neq (.str x) (.str x) = some (.bool false):=by simp only [sS,if_true,if_false,reduceCtorEq]; simp
theorem incI {i : Nat} (h : i < 1000000000000) : binK .add (.int .i64 (i : Int)) (.int .i64 1) = some (.int .i64 ((i + 1 : Nat) : Int)):=by
 show some (V.int .i64 (IntKind.i64.wrap ((i : Int) + 1))) = _
 rw [wrap_in (by omega) (by omega)]; rfl
attribute [local irreducible] FunWp FunWpE in
theorem ok_Tame : SpecL Tryz.prog n_entaillaw22_Tame F_Tame:=by
 refine go_entaillaw22_Tame (T:=[]) TabOk.nil fun args v hv=>?_
 unfold F_Tame at hv
 split at hv <;> simp only [Option.ite_none_right_eq_some,Option.some.injEq,reduceCtorEq] at hv
 rename_i s
 obtain ⟨h1,rfl⟩:=hv
 refine ⟨rfl,rfl,rfl,?_⟩
 refine Eq.mpr (e_entaillaw22_Tame _ _ (.str s)) ?_
 refine loopP_inv (fun vs=>∃ i : Nat,vs = [.str ((s.take i).flatMap tkM),.int .i64 i] ∧ i ≤ s.length ∧ i ≤ 80) (fun vs=>s.length - natOf (gv vs 1)) ⟨0,rfl,Nat.zero_le _,Nat.zero_le _⟩ ?_
 rintro r1 vs ⟨i,rfl,hi,hi2⟩ hnext
 refine ⟨rfl,?_⟩
 have g0 : ∀ x y : V,gv [x,y] 0 = x:=fun _ _=>rfl
 have g1 : ∀ x y : V,gv [x,y] 1 = y:=fun _ _=>rfl
 have hls : lenS (.str s) = some (.int .i64 s.length):=rfl
 have hq:=tks_len (s.take i)
 rw [List.length_take] at hq
 rw [hls,opt_s,g1,lssI,opt_s,lssI,opt_s,pk2,opt_s]
 by_cases hk : i < s.length ∧ i < 80
 ·have hg:=List.getElem?_eq_getElem hk.1
  have hx : indexS (.str s) (.int .i64 (i : Nat)) = some (.int .u8 s[i].toNat):=idxS_at hg .i64
  have hl : litK 1 [.str [91],.str [93],.str [123],.str [125],.str [44],.str [58],.str [34,97,34],.str [34,98,34],.str [49],.str [45,50,46,53,101,43,49],.str [110,117,108,108],.str [116,114,117,101],.str [102,97,108,115,101],.str [32],.str [34,92,117,48,48],.str [34,92,110,34],.str [48],.str [91,91],.str [93,93],.str [34,97,34,58],.str [91,49,44],.str [123,34,97,34,58],.str [116,114,117],.str [34]] = some (.sl .ro (tkA.map V.str)):=rfl
  have ht : s.take (i + 1) = s.take i ++ [s[i]]:=by rw [List.take_add_one,hg]; rfl
  have htl:=tk_len s[i]
  unfold tkM at htl
  rw [decide_eq_true (show (i : Int) < (s.length : Int) by omega),decide_eq_true (show (i : Int) < 80 by omega),show (true && true) = true from rfl,itT,hl,opt_s,hx,opt_s,and255,opt_s,rem24,opt_s,tabAt8 (l:=tkA) (i:=s[i].toNat % 24) (show _ < 24 from Nat.mod_lt _ (by decide)),opt_s,g0,catS (by omega),opt_s,incI (by omega),opt_s]
  refine hnext _ ⟨i + 1,?_,by omega,by omega⟩ (by show s.length - (i + 1) < s.length - i; omega)
  rw [ht,List.flatMap_append]
  simp only [List.flatMap_cons,List.flatMap_nil,List.append_nil]
  rfl
 ·have hf : (decide ((i : Int) < (s.length : Int)) && decide ((i : Int) < 80)) = false:=by
   rw [Bool.and_eq_false_iff,decide_eq_false_iff_not,decide_eq_false_iff_not]
   omega
  rw [hf,itF,g0]
  have e : s.take i = s.take 80:=by
   rcases Nat.lt_or_ge i s.length with h | h
   ·rw [show i = 80 by omega]
   ·rw [List.take_of_length_le h,List.take_of_length_le (by omega)]
  rw [e]; rfl
theorem getL_at {ls : List V} {key : List UInt8} : ∀ {r : List (List UInt8)} {j i : Nat},r.Nodup → r[i]? = some key → j + i < ls.length → getL 7 ls key r j = (ls.getD (j + i) .undef,true)
 | [],j,i,_,h,_=>by simp at h
 | x :: r,j,0,_,h,hl=>by
  have e : x = key:=by simpa using h
  rw [getL,if_pos ⟨rfl,e,by omega⟩]; rfl
 | x :: r,j,i + 1,hn,h,hl=>by
  rw [List.nodup_cons] at hn
  have h2 : r[i]? = some key:=by simpa using h
  have hne : x ≠ key:=fun e=>hn.1 (by rw [e]; exact List.mem_of_getElem? h2)
  rw [getL,if_neg (fun c=>hne c.2.1),getL_at hn.2 h2 (by omega),show j + 1 + i = j + (i + 1) by omega]
theorem getL_no {k : Int} {ls : List V} {key : List UInt8} : ∀ {r : List (List UInt8)} {j : Nat},key ∉ r → getL k ls key r j = (jn 0 [] [] [],false)
 | [],_,_=>rfl
 | x :: r,j,h=>by
  rw [getL,if_neg (fun c=>h (by rw [← c.2.1]; exact List.mem_cons_self ..))]
  exact getL_no fun hm=>h (List.mem_cons_of_mem _ hm)
theorem wf_keys {n : Nat} {v : V} {x : List UInt8} (h : Wf n v x) : ∃ k t ks ls,v = jn k t (ks.map V.str) ls ∧ ks.Nodup ∧ (ks ≠ [] → k = 7 ∧ ls.length = ks.length):=by
 have hleaf : ∀ {v : V} {x : List UInt8},Leaf v x → ∃ k t ks ls,v = jn k t (ks.map V.str) ls ∧ ks.Nodup ∧ (ks ≠ [] → k = 7 ∧ ls.length = ks.length):=fun {v x} h=>by
  rcases h with ⟨rfl,_⟩ | ⟨rfl,_⟩ | ⟨rfl,_⟩ | ⟨_,rfl⟩ | ⟨t,_,rfl,_⟩ <;> exact ⟨_,_,[],[],rfl,List.nodup_nil,fun h=>absurd rfl h⟩
 cases n with
 | zero=>exact hleaf h
 | succ n =>
  rcases h with h | ⟨l,_,rfl,_⟩ | ⟨l,_,hn,rfl,_⟩
  ·exact hleaf h
  ·exact ⟨_,_,[],_,rfl,List.nodup_nil,fun h=>absurd rfl h⟩
  ·exact ⟨_,_,_,_,rfl,hn,fun _=>⟨rfl,by simp⟩⟩
def keysV : V → List V
 | .agg [_,_,.sl _ ks,_]=>ks
 | _=>[]
theorem made_keys (d : Nat) (es : List V) : ∀ e ∈ keysV (madeM d es).1,e ∈ keyA.map V.str:=by
 have hs : ∀ n l row,∀ e ∈ keysV (stepM n l row).1,e ∈ keyA.map V.str:=by
  intro n l row e he
  unfold stepM at he
  repeat' split at he
  all_goals first
   | (cases (show e ∈ ([] : List V) from he))
   | (have he' : e ∈ (keyA.take row.1.length).map V.str:=he
      obtain ⟨k,hk,rfl⟩:=List.mem_map.1 he'
      exact List.mem_map.2 ⟨k,List.mem_of_mem_take hk,rfl⟩)
 cases es with
 | nil=>cases d <;> exact fun e he=>absurd he (by simp [madeM,keysV,jn])
 | cons e l=>rw [made_cons]; exact hs _ _ _
def F_entaillaw22_JsonBack : Spec
 | [.sl .ro es,.str _]=>if es.all isI = true ∧ es.length ≤ es.length then some (.bool true) else none
 | _=>none
noncomputable abbrev TLb : List (FuncId × Spec):=[(n_entaillaw22_awake,F_awake),(n_entaillaw22_Made,F_Made 5),(n_json_Text,F_json_Text 25 25),(n_json_Parse,F_Parse objM 25),(n_entailref22_Text,F_rText 7),(n_entailref22_SameJson,F_json_Same 25),(n_json_Get,F_json_Get),(n_entaillaw22_Tame,F_Tame)]
def noKey : List UInt8:=[110,111,32,115,117,99,104,32,107,101,121]
attribute [local irreducible] FunWp FunWpE in
theorem ok_entaillaw22_JsonBack : SpecL Tryz.prog n_entaillaw22_JsonBack F_entaillaw22_JsonBack:=by
 refine go_entaillaw22_JsonBack (T:=TLb) (TabOk.cons ok_awake (TabOk.cons (ok_Made 5 (by omega)) (TabOk.cons (ok_json_Text 25 25) (TabOk.cons (ok_Parse2 25) (TabOk.cons (ok_rText 7) (TabOk.cons (ok_SameJson 25) (TabOk.cons ok_json_Get (TabOk.cons ok_Tame TabOk.nil)))))))) fun args v hv=>?_
 unfold F_entaillaw22_JsonBack at hv
 split at hv <;> simp only [Option.ite_none_right_eq_some,Option.some.injEq,reduceCtorEq] at hv
 rename_i es s
 obtain ⟨⟨h1,h2⟩,rfl⟩:=hv
 refine ⟨rfl,by simp [canos,V.cano,ints_cano h1],rfl,?_⟩
 have c0 : tab TLb n_entaillaw22_awake [] = some (.bool true):=rfl
 have c1 : ∀ args,tab TLb n_entaillaw22_Made args = F_Made 5 args:=fun _=>rfl
 have c2 : ∀ args,tab TLb n_json_Text args = F_json_Text 25 25 args:=fun _=>rfl
 have c3 : ∀ args,tab TLb n_json_Parse args = F_Parse objM 25 args:=fun _=>rfl
 have c4 : ∀ args,tab TLb n_entailref22_Text args = F_rText 7 args:=fun _=>rfl
 have c5 : ∀ args,tab TLb n_entailref22_SameJson args = F_json_Same 25 args:=fun _=>rfl
 have c6 : ∀ args,tab TLb n_json_Get args = F_json_Get args:=fun _=>rfl
 have c7 : ∀ args,tab TLb n_entaillaw22_Tame args = F_Tame args:=fun _=>rfl
 have t0 : ∀ x y z : V,extractV (.tup [x,y,z]) 0 = some x:=fun _ _ _=>rfl
 have t1 : ∀ x y z : V,extractV (.tup [x,y,z]) 1 = some y:=fun _ _ _=>rfl
 have t2 : ∀ x y z : V,extractV (.tup [x,y,z]) 2 = some z:=fun _ _ _=>rfl
 have ag : ∀ (k : Int) (t : List UInt8) (a b : List V),aggK [.int .i64 k,.str t,.sl .ro a,.sl .ro b] = some (jn k t a b):=fun _ _ _ _=>rfl
 have pF : ∀ x y : V,pickV (.bool false) x y = some y:=fun _ _=>rfl
 have gF : ∀ o : Option V,guardV (.bool false) false o = o:=fun _=>rfl
 have nT : unV .not (.bool true) = some (.bool false):=rfl
 have hgt : ∀ x y : Int,binK .gtr (.int .i64 x) (.int .i64 y) = some (.bool (decide (x > y))):=fun _ _=>rfl
 refine Eq.mpr (e_entaillaw22_JsonBack _ _ (.sl .ro es) (.str s)) ?_
 rw [show lenS (.str s) = some (.int .i64 s.length) from rfl,opt_s,hgt,opt_s]
 by_cases hs : s.length > 400
 ·rw [decide_eq_true (by omega),itT,c0,opt_s]
 rw [decide_eq_false (by omega),itF]
 obtain ⟨⟨x,hx,hxl⟩,_⟩:=made_ok 5 es h1
 have hLB:=LB_le 5 (Nat.le_refl 5)
 have hkeys:=made_keys 5 es
 have hmade : F_Made 5 [.sl .ro es,.int .i64 5] = some (.tup [(madeM 5 es).1,.sl .ro (madeM 5 es).2]):=F_Made_at h1 h2
 rw [c1,hmade,opt_s,ex0,opt_s,ex1,opt_s]
 generalize (madeM 5 es).1 = v at *
 have hT : F_json_Text 25 25 [v] = some (.tup [.str x,.bool true]):=text_wf hx (by omega) (by omega) (by omega)
 have hP : F_Parse objM 25 [.str x] = some (.tup [v,.int .i64 0,.int .i64 0]):=by
  have:=parse_wf (b1:=[]) (b2:=[]) (N:=25) hx (by omega) (by omega) (fun b hb=>by cases hb) (fun b hb=>by cases hb) (by simp; omega)
  simpa using this
 have hP2 : F_Parse objM 25 [.str ([32,10] ++ x ++ [9,13,10,32])] = some (.tup [v,.int .i64 0,.int .i64 0]) :=
  parse_wf (b1:=[32,10]) (b2:=[9,13,10,32]) (N:=25) hx (by omega) (by omega) (by decide) (by decide) (by simp only [List.length_append,List.length_cons,List.length_nil]; omega)
 have hR : F_rText 7 [v] = some (.str x):=F_rText_at hx (by omega) (by omega)
 have hD : Deep 25 v:=(wf_deep 6 v x hx (by omega)).mono (by omega)
 have hSame:=F_Same_at hD
 have hgood : Good v:=wf_good hx (by omega)
 have hck:=ck_j hgood
 obtain ⟨k,t,ks,ls,ev,hnd,hkk⟩:=wf_keys hx
 have hagg : aggK [cellD v 0,cellD v 1,cellD v 2,cellD v 3] = some v:=by rw [ev]; rfl
 rw [hck,opt_s,c2,hT,opt_s,ex0,opt_s,ex1,opt_s,c3,hP,opt_s,t0,opt_s,t1,opt_s,t2,opt_s,hck,opt_s,catS (by simp only [List.length_cons,List.length_nil]; omega),opt_s,catS (by simp only [List.length_append,List.length_cons,List.length_nil]; omega),opt_s,c3,hP2,opt_s,t0,opt_s,t1,opt_s,t2,opt_s,hck,opt_s,nT,opt_s,neqI,opt_s,pF,opt_s,opt_s,pF,opt_s,hagg,opt_s,gF,c4,hR,opt_s,gF,neqS,opt_s,pF,opt_s,opt_s,opt_s,gF,c5,hSame,opt_s,gF,nT,opt_s,pF,opt_s,opt_s,opt_s,gF,c5,hSame,opt_s,gF,nT,opt_s,pF,opt_s,itF]
 have hc2 : cellD v 2 = .sl .ro (ks.map V.str):=by rw [ev]; rfl
 have hc3 : cellD v 3 = .sl .ro ls:=by rw [ev]; rfl
 rw [hc2,hc3]
 have g0 : ∀ x : V,gv [x] 0 = x:=fun _=>rfl
 have hDk : Deep 25 (jn k t (ks.map V.str) ls):=by rw [← ev]; exact hD
 refine loopP_inv (fun vs=>∃ i : Nat,vs = [.int .i64 i] ∧ i ≤ ks.length) (fun vs=>ks.length - natOf (gv vs 0)) ⟨0,rfl,Nat.zero_le _⟩ ?_
 rintro r1 vs ⟨i,rfl,hi⟩ hnext
 refine ⟨rfl,?_⟩
 have hkl : ks.length ≤ 1000000000:=by
  obtain ⟨k',t',ks',ls',e,q1,_⟩:=hDk
  simp only [jn,V.agg.injEq,List.cons.injEq,V.int.injEq,V.str.injEq,V.sl.injEq,true_and,and_true] at e
  have:=congrArg List.length e.2.2.1
  simp only [List.length_map] at this
  omega
 rw [lenAt,opt_s,g0,lssI,opt_s,List.length_map]
 by_cases hk : i < ks.length
 ·have hne : ks ≠ []:=fun e=>by rw [e] at hk; exact absurd hk (Nat.not_lt_zero _)
  obtain ⟨hk7,hll⟩:=hkk hne
  have hgk:=List.getElem?_eq_getElem hk
  have hil : i < ls.length:=by omega
  have hgl:=List.getElem?_eq_getElem hil
  have hget:=F_Get_at hDk ks[i]
  rw [hk7] at hget
  rw [getL_at hnd hgk (by omega : 0 + i < ls.length),Nat.zero_add,List.getD_eq_getElem?_getD,hgl] at hget
  rw [← hk7,← ev] at hget
  have hDe : Deep 24 ls[i]:=by
   obtain ⟨k',t',ks',ls',e,_,_,q3⟩:=hDk
   simp only [jn,V.agg.injEq,List.cons.injEq,V.int.injEq,V.str.injEq,V.sl.injEq,true_and,and_true] at e
   exact q3 _ (by rw [← e.2.2.2]; exact List.getElem_mem hil)
  have hge:=isJn_inv hDe.isJn
  have hse:=F_Same_at (hDe.mono (by omega : 24 ≤ 25))
  obtain ⟨k',t',ks',ls',ee,_⟩:=hge
  have hel : idxLK true 4 (.sl .ro ls) (.int .i64 (i : Nat)) = some ls[i]:=by rw [ee]; exact elAt (by rw [hgl,ee])
  have hcke : chkK 4 ls[i] = some ls[i]:=by rw [ee]; rfl
  have hage : aggK [cellD ls[i] 0,cellD ls[i] 1,cellD ls[i] 2,cellD ls[i] 3] = some ls[i]:=by rw [ee]; rfl
  rw [decide_eq_true (by omega),itT,keyAt hgk,opt_s,c6,hget,opt_s,ex0,opt_s,ex1,opt_s,show (some ls[i]).getD V.undef = ls[i] from rfl,hcke,opt_s,nT,opt_s,hage,opt_s,gF,hel,opt_s,gF,c5,hse,opt_s,gF,nT,opt_s,pF,opt_s,itF,incI (by omega),opt_s]
  exact hnext _ ⟨i + 1,rfl,hk⟩ (by show ks.length - (i + 1) < ks.length - i; omega)
 ·have hno : noKey ∉ ks:=fun hm=>by
   have h5 : V.str noKey ∈ keysV v:=by rw [ev]; exact List.mem_map.2 ⟨_,hm,rfl⟩
   obtain ⟨y,y1,y2⟩:=List.mem_map.1 (hkeys _ h5)
   cases y2
   exact absurd y1 (by decide)
  have hget : F_json_Get [v,.str [110,111,32,115,117,99,104,32,107,101,121]] = some (.tup [jn 0 [] [] [],.bool false]):=by
   have:=F_Get_at hDk noKey
   rw [getL_no hno,← ev] at this
   exact this
  rw [decide_eq_false (by omega),itF,c6,hget,opt_s,ex0,opt_s,ex1,opt_s,ckJ,opt_s,itF]
  refine loopP_inv (fun vs=>∃ (i : Nat) (s : List UInt8),vs = [.str s,.int .i64 i] ∧ i ≤ 2 ∧ s.length ≤ 1000) (fun vs=>2 - natOf (gv vs 1)) ⟨0,s,rfl,Nat.zero_le _,by omega⟩ ?_
  rintro r2 vs ⟨i,s,rfl,hi,hsl⟩ hnext
  refine ⟨rfl,?_⟩
  have h0 : ∀ x y : V,gv [x,y] 0 = x:=fun _ _=>rfl
  have h1 : ∀ x y : V,gv [x,y] 1 = y:=fun _ _=>rfl
  rw [h1,lssI,opt_s,h0]
  by_cases hi2 : i < 2
  ·obtain ⟨a,b,e,hp,hr⟩:=parse_tot (N:=25) (by omega) (s:=s) (by omega)
   have hga : Good a:=by
    rcases hr with ⟨rfl,_⟩ | ⟨_,y,y1,y2⟩
    ·exact good_jn 0 []
    ·exact wf_good y1 (by omega)
   have htame : F_Tame [.str s] = some (.str (tameM s)):=if_pos (by omega)
   have hend : r2 [.str (tameM s),.int .i64 ((i + 1 : Nat) : Int)]:=hnext _ ⟨i + 1,_,rfl,by omega,Nat.le_trans (tame_len s) (by decide)⟩ (by show 2 - (i + 1) < 2 - i; omega)
   rw [decide_eq_true (by omega),itT,c3,hp,opt_s,t0,opt_s,t1,opt_s,t2,opt_s,ck_j hga,opt_s,eqlI,opt_s]
   refine joinP_inv (fun w=>w = []) (fun w hw=>?_) fun r0 hr0=>?_
   case refine_1 =>
    subst hw
    refine ⟨rfl,?_⟩
    rw [c7,htame,opt_s,incI (by omega),opt_s]
    exact hend
   rcases hr with ⟨_,he⟩ | ⟨he,y,y1,y2⟩
   ·rw [decide_eq_false he,itF]
    exact hr0 _ rfl
   ·have hT : F_json_Text 25 25 [a] = some (.tup [.str y,.bool true]):=text_wf y1 (by omega) (by omega) (by omega)
    have hP : F_Parse objM 25 [.str y] = some (.tup [a,.int .i64 0,.int .i64 0]):=by
     have:=parse_wf (b1:=[]) (b2:=[]) (N:=25) y1 (by omega) (by omega) (fun b hb=>by cases hb) (fun b hb=>by cases hb) (by simp; omega)
     simpa using this
    have hD : Deep 25 a:=(wf_deep 20 a y y1 (by omega)).mono (by omega)
    have hSa:=F_Same_at hD
    have haga : aggK [cellD a 0,cellD a 1,cellD a 2,cellD a 3] = some a:=by
     obtain ⟨k',t',ks',ls',rfl,_⟩:=hga; rfl
    rw [decide_eq_true he,itT,c2,hT,opt_s,ex0,opt_s,ex1,opt_s,c3,hP,opt_s,t0,opt_s,t1,opt_s,t2,opt_s,ck_j hga,opt_s,nT,opt_s,neqI,opt_s,pF,opt_s,haga,opt_s,opt_s,gF,c5,hSa,opt_s,gF,nT,opt_s,pF,opt_s,itF]
    exact hr0 _ rfl
  ·rw [decide_eq_false (by omega),itF,c0,opt_s]
end Go.Fbs

namespace Go.Fbs
open Go.Proofs Go.RowKit
theorem pin_case : Go.Pinned.caseRanges = Lib.caseData:=by kernel_rfl
theorem pin_first : Go.Pinned.utf8First = Lib.firstData:=by kernel_rfl
theorem pin_accept : (Go.Proofs.YthakklikgmcgdaaGreatDoor.Rows.laid_unicode_utf8_acceptRanges : DataW Unit) = Lib.acceptData:=by kernel_rfl
theorem lays260B : Lays.n260 Tryz.prog Tryz.lays159_ren:={ Tryz.lays159 with }
theorem lays274B : Lays.n274 Tryz.prog Tryz.lays159_ren:={ Tryz.lays159 with }
theorem u8B : U8Extra Tryz.prog Tryz.lays159_ren:={ n3:=by kernel_rfl,n4:=by kernel_rfl,y3:=by kernel_rfl,y4:=by kernel_rfl,c5:=by kernel_rfl,c119:=by kernel_rfl,c138:=by kernel_rfl }
theorem caseB : CaseExtra Tryz.prog Tryz.lays159_ren:={ n13:=by kernel_rfl,y13:=by kernel_rfl,c21:=by kernel_rfl,c51:=by kernel_rfl,c206:=by kernel_rfl,c208:=by kernel_rfl }
theorem hcell_cell {w : World} {b i : Nat} {v : Value} (h : w.cell? ⟨b,i,none⟩ = some v) : hcell w.heap b i = some v:=(cell?_eq w b i).symm.trans h
theorem tab0_vars {w : World} (hc : Lib.CaseVar 3 Lib.caseA w) (hu : Lib.Utf8Tabs 0 1 w) : Tab0 w.heap:=by
 obtain ⟨R,oR,cap,h3,h4⟩:=hc
 obtain ⟨h1,h2⟩:=hu
 have hpos : 0 < Lib.caseA.size:=by
  have h336 : Lib.caseT.length = 336:=by kernel_rfl
  have e : Lib.caseA.size = Lib.caseT.length:=by simp [Lib.caseA]
  omega
 have key : ∀ {S : Nat → Bool} {b i : Nat} {v : Value},S b = true → w.cell? ⟨b,i,none⟩ = some v → seeS S w.heap b i = some v:=fun {S b i v} hb h=>by
  unfold seeS
  rw [if_pos hb]
  exact hcell_cell h
 refine ⟨fun b=>b == 0 || b == 1 || b == 3 || b == R,fun b hb=>?_,fun k hk=>key (by simp) (h1 k hk),fun i hi=>⟨key (by simp) (h2 i hi).1,key (by simp) (h2 i hi).2⟩,R,oR,cap,key (by simp) h3,fun i hi=>?_⟩
 ·simp only [Bool.or_eq_true,beq_iff_eq] at hb
  rcases hb with ((rfl | rfl) | rfl) | rfl
  ·exact hcell_lt (hcell_cell (h1 0 (by omega)))
  ·exact hcell_lt (hcell_cell (h2 0 (by omega)).1)
  ·exact hcell_lt (hcell_cell h3)
  ·exact hcell_lt (hcell_cell (h4 0 hpos).1)
 ·obtain ⟨q0,q1,q2,q3,q4⟩:=h4 i hi
  exact ⟨key (by simp) q0,key (by simp) q1,key (by simp) q2,key (by simp) q3,key (by simp) q4⟩
theorem tab0_laidB {W : World} (h : laidMetH Tryz.prog Go.Proofs.YthakklikgmcgdaaGreatDoor.Rows.jsonBackRow.laid W) : Tab0 W.heap:=by
 have h2 : laidMet Tryz.prog Go.Proofs.YthakklikgmcgdaaGreatDoor.Rows.jsonBackRow.laid W:=by rw [MakeChecks.laidMetH_plain _ _ _ (by kernel_rfl)] at h; exact h
 have r1 : Lib.VarReads Tryz.prog W "unicode/utf8.first" Lib.firstData := by
  rw [← pin_first]
  exact Lib.laidMet.reads h2 (.tail _ (.tail _ (.tail _ (.tail _ (.tail _ (.tail _ (.tail _ (.head _))))))))
 have r2 : Lib.VarReads Tryz.prog W "unicode/utf8.acceptRanges" Lib.acceptData := by
  rw [← pin_accept]
  exact Lib.laidMet.reads h2 (.tail _ (.tail _ (.tail _ (.head _))))
 have r3 : Lib.VarReads Tryz.prog W "unicode.CaseRanges" Lib.caseData := by
  rw [← pin_case]
  exact Lib.laidMet.reads h2 (.tail _ (.tail _ (.tail _ (.tail _ (.tail _ (.tail _ (.head _)))))))
 exact tab0_vars (caseVar_of_reads lays274B (by kernel_rfl) caseB r3) (utf8Tabs_of_reads lays260B u8B r1 r2)
end Go.Fbs
