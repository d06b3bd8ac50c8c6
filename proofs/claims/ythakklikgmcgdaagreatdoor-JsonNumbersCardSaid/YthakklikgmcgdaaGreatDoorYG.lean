import Derived.Test.YthakklikgmcgdaaGreatDoorYF
set_option linter.unusedSimpArgs false
set_option linter.unusedVariables false
set_option linter.unusedSectionVars false
set_option maxRecDepth 100000
namespace Go.Fbs
open Go.Proofs Go.RowKit
theorem dec_len : ∀ (k v : Nat),v < 10 ^ (k + 1) → (decT v).length ≤ k + 1
 | 0,v,h=>by rw [decT,if_pos (by simpa using h)]; simp
 | k + 1,v,h=>by
  rw [decT]
  split
  ·simp
  ·rw [List.length_append]
   have:=dec_len k (v / 10) (by rw [Nat.pow_succ] at h; omega)
   simp; omega
theorem dec_digs : ∀ v : Nat,Digs (decT v) ∧ (v ≠ 0 → ∀ r,decT v ≠ 48 :: r):=by
 intro v
 induction v using Nat.strongRecOn with
 | ind v ih =>
  have hdig : ∀ q,q < 10 → digitL.contains ((48 + q).toUInt8) = true:=fun q hq=>by
   have : ∀ q : _root_.Fin 10,digitL.contains ((48 + q.val).toUInt8) = true:=by decide
   exact this ⟨q,hq⟩
  by_cases h10 : v < 10
  ·have e : decT v = [(48 + v).toUInt8]:=by rw [decT,if_pos h10]
   rw [e]
   refine ⟨⟨by simp,fun c hc=>by rw [List.mem_singleton.1 hc]; exact hdig v h10⟩,fun h0 r hr=>?_⟩
   have h1:=(List.cons.inj hr).1
   have h2 : ∀ q : _root_.Fin 10,(48 + q.val).toUInt8 = 48 → q.val = 0:=by decide
   exact h0 (h2 ⟨v,h10⟩ h1)
  ·have e : decT v = decT (v / 10) ++ [(48 + v % 10).toUInt8]:=by rw [decT,if_neg h10]
   obtain ⟨h1,h2⟩:=ih (v / 10) (by omega)
   rw [e]
   refine ⟨⟨by simp,fun c hc=>?_⟩,fun _ r hr=>?_⟩
   ·rcases List.mem_append.1 hc with hc | hc
    ·exact h1.2 c hc
    ·rw [List.mem_singleton.1 hc]; exact hdig _ (Nat.mod_lt _ (by decide))
   ·obtain ⟨c,r',ec,_⟩:=h1.open
    rw [ec] at hr
    simp only [List.cons_append,List.cons.injEq] at hr
    exact h2 (by omega) r' (by rw [ec,hr.1])
theorem dec_int (v : Nat) : decT v = [48] ∨ (Digs (decT v) ∧ ∀ r,decT v ≠ 48 :: r):=by
 by_cases h : v = 0
 ·subst h; exact .inl (by rw [decT,if_pos (by decide)]; rfl)
 ·exact .inr ⟨(dec_digs v).1,(dec_digs v).2 h⟩
def numP (a : Int) : Nat:=(a % 65536).toNat
theorem numP_len (a : Int) : (decT (numP a)).length ≤ 5:=dec_len 4 _ (by unfold numP; omega)
def lawV (s : List UInt8) : V:=jn 7 [] ([[122],[97],[]].map V.str) [jn 4 s [] [],jn 6 [] [] [jn 4 s [] []],jn 1 [] [] []]
def lawT (s : List UInt8) : List UInt8:=[123,34,122,34,58] ++ s ++ [44,34,97,34,58,91] ++ s ++ [93,44,34,34,58,110,117,108,108,125]
theorem law_wf {s : List UInt8} (h : NumS s) : Wf 2 (lawV s) (lawT s):=by
 have hleaf : Leaf (jn 4 s [] []) s:=.inr (.inr (.inr (.inl ⟨h,rfl⟩)))
 refine .inr (.inr ⟨[([122],jn 4 s [] [],s),([97],jn 6 [] [] [jn 4 s [] []],[91] ++ s ++ [93]),([],jn 1 [] [] [],[110,117,108,108])],fun q hq=>?_,(show ([[122],[97],[]] : List (List UInt8)).Nodup by decide),rfl,?_⟩)
 ·simp only [List.mem_cons,List.not_mem_nil,or_false] at hq
  rcases hq with rfl | rfl | rfl
  ·exact ⟨fun c hc=>by rw [List.mem_singleton.1 hc]; decide,.inl hleaf⟩
  ·refine ⟨fun c hc=>by rw [List.mem_singleton.1 hc]; decide,.inr (.inl ⟨[(jn 4 s [] [],s)],fun q hq=>?_,rfl,rfl⟩)⟩
   rw [List.mem_singleton.1 hq]; exact hleaf
  ·exact ⟨fun c hc=>(by cases hc),.inl (.inl ⟨rfl,rfl⟩)⟩
 ·unfold lawT
  simp [joinT,quoT,quoB]
theorem itT (A B : Prop) : iteB (.bool true) A B = A:=by simp only [sS,if_true,if_false,reduceCtorEq]
theorem itF (A B : Prop) : iteB (.bool false) A B = B:=by simp only [sS,if_true,if_false,reduceCtorEq]
def F_entaillaw22_JsonNumbers : Spec
 | [.int .i64 _,.int .i64 _,.int .i64 _]=>some (.bool true)
 | _=>none
noncomputable abbrev TLlaw : List (FuncId × Spec):=[(n_entaillaw22_JsonNumbers_1,F_num),(n_json_Parse,F_Parse objM 25),(n_json_Text,F_json_Text 25 25),(n_entaillaw22_awake,F_awake)]
theorem idx2 (x y : List UInt8) (k : Int) : ∃ s,idxLK false 1 (.sl .ro [.str x,.str y]) (.int .i64 ((k % ((2 : Nat) : Int)).toNat : Nat)) = some (.str s) ∧ (s = x ∨ s = y):=by
 have h : (k % ((2 : Nat) : Int)).toNat < 2:=by omega
 generalize (k % ((2 : Nat) : Int)).toNat = n at h
 match n,h with
 | 0,_=>exact ⟨x,rfl,.inl rfl⟩
 | 1,_=>exact ⟨y,rfl,.inr rfl⟩
theorem idx4 (x y z u : List UInt8) (k : Int) : ∃ s,idxLK false 1 (.sl .ro [.str x,.str y,.str z,.str u]) (.int .i64 ((k % ((4 : Nat) : Int)).toNat : Nat)) = some (.str s) ∧ (s = x ∨ s = y ∨ s = z ∨ s = u):=by
 have h : (k % ((4 : Nat) : Int)).toNat < 4:=by omega
 generalize (k % ((4 : Nat) : Int)).toNat = n at h
 match n,h with
 | 0,_=>exact ⟨x,rfl,.inl rfl⟩
 | 1,_=>exact ⟨y,rfl,.inr (.inl rfl)⟩
 | 2,_=>exact ⟨z,rfl,.inr (.inr (.inl rfl))⟩
 | 3,_=>exact ⟨u,rfl,.inr (.inr (.inr rfl))⟩
attribute [local irreducible] FunWp FunWpE in
theorem ok_entaillaw22_JsonNumbers : SpecL Tryz.prog n_entaillaw22_JsonNumbers F_entaillaw22_JsonNumbers:=by
 refine go_entaillaw22_JsonNumbers (T:=TLlaw) (TabOk.cons ok_num (TabOk.cons (ok_Parse2 25) (TabOk.cons (ok_json_Text 25 25) (TabOk.cons ok_awake TabOk.nil)))) fun args v hv=>?_
 unfold F_entaillaw22_JsonNumbers at hv
 split at hv
 case h_2=>cases hv
 rename_i a b k
 cases hv
 refine ⟨rfl,rfl,rfl,?_⟩
 have c0 : ∀ x,callvK (tab TLlaw) (.func 6 []) [.int .i64 x] = some (.str (decT (numP x))):=fun _=>rfl
 have c1 : ∀ args,tab TLlaw n_json_Parse args = F_Parse objM 25 args:=fun _=>rfl
 have c2 : ∀ args,tab TLlaw n_json_Text args = F_json_Text 25 25 args:=fun _=>rfl
 have c3 : tab TLlaw n_entaillaw22_awake [] = some (.bool true):=rfl
 refine Eq.mpr (e_entaillaw22_JsonNumbers _ _ (.int .i64 a) (.int .i64 b) (.int .i64 k)) ?_
 have l1 : litK 1 [.str [],.str [45]] = some (.sl .ro [.str [],.str [45]]):=rfl
 obtain ⟨sg,hsg,hsg2⟩:=idx2 [] [45] k
 have hsgl : sg.length ≤ 1:=by rcases hsg2 with rfl | rfl <;> decide
 have hA:=numP_len a
 have hB:=numP_len b
 have hand : ∀ c : Int,∃ r,binK .and (.int .i64 k) (.int .i64 c) = some (.int .i64 r):=fun c=>⟨_,rfl⟩
 rw [l1,opt_s,andM k (j:=1) (c:=1) (m:=2) (by omega) rfl rfl,opt_s,hsg,opt_s,c0,opt_s,catS (by omega),opt_s]
 obtain ⟨r2,hr2⟩:=hand 2
 obtain ⟨r4,hr4⟩:=hand 4
 rw [hr2,opt_s]
 have hel : ∀ x y : Int,binK .eql (.int .i64 x) (.int .i64 y) = some (.bool (decide (x = y))):=fun _ _=>rfl
 rw [hel,opt_s]
 refine joinP_inv (fun w=>∃ f,w = [.str (sg ++ (decT (numP a) ++ f)),.func 6 [],.func 6 []] ∧ (f = [] ∨ ∃ d,f = 46 :: d ∧ Digs d) ∧ f.length ≤ 10) (fun w hw=>?_) fun r0 hr0=>?_
 case refine_2 =>
  by_cases h2 : r2 = 2
  ·rw [decide_eq_true h2,itT]
   rw [catS (by simp; omega),opt_s,c0,opt_s,catS (by simp; omega),opt_s,catS (by simp; omega),opt_s]
   refine hr0 _ ⟨46 :: (decT (numP b) ++ [48]),by simp,.inr ⟨_,rfl,by simp,fun c hc=>?_⟩,by simp; omega⟩
   rcases List.mem_append.1 hc with hc | hc
   ·exact (dec_digs _).1.2 c hc
   ·rw [List.mem_singleton.1 hc]; decide
  ·rw [decide_eq_false h2,itF]
   exact hr0 _ ⟨[],by simp,.inl rfl,by simp⟩
 obtain ⟨f,rfl,hf,hfl⟩:=hw
 refine ⟨rfl,?_⟩
 have g0 : ∀ x y z : V,gv [x,y,z] 0 = x:=fun _ _ _=>rfl
 have g2 : ∀ x y z : V,gv [x,y,z] 2 = z:=fun _ _ _=>rfl
 rw [hr4,opt_s,hel,opt_s]
 refine joinP_inv (fun w=>∃ s,w = [.str s] ∧ NumS s ∧ s.length ≤ 40) (fun w hw=>?_) fun r1 hr1=>?_
 case refine_2 =>
  by_cases h4 : r4 = 4
  ·rw [decide_eq_true h4,itT]
   have l2 : litK 1 [.str [101],.str [69]] = some (.sl .ro [.str [101],.str [69]]):=rfl
   have l3 : litK 1 [.str [],.str [43],.str [45],.str []] = some (.sl .ro [.str [],.str [43],.str [45],.str []]):=rfl
   obtain ⟨ec,hec,hec2⟩:=idx2 [101] [69] (k.fdiv (2 ^ 3))
   obtain ⟨es,hes,hes2⟩:=idx4 [] [43] [45] [] (k.fdiv (2 ^ 4))
   have hel1 : ec.length = 1:=by rcases hec2 with rfl | rfl <;> rfl
   have hel2 : es.length ≤ 1:=by rcases hes2 with rfl | rfl | rfl | rfl <;> decide
   rw [l2,opt_s,show binK .shr (.int .i64 k) (.int .u64 3) = some (.int .i64 (k.fdiv (2 ^ 3))) from shrM (b:=3) (by omega),opt_s,andM _ (j:=1) (c:=1) (m:=2) (by omega) rfl rfl,opt_s,hec,opt_s,g0,catS (by simp; omega),opt_s,l3,opt_s,show binK .shr (.int .i64 k) (.int .u64 4) = some (.int .i64 (k.fdiv (2 ^ 4))) from shrM (b:=4) (by omega),opt_s,andM _ (j:=2) (c:=3) (m:=4) (by omega) rfl rfl,opt_s,hes,opt_s,catS (by simp; omega),opt_s,catS (by simp; omega),opt_s,g2,c0,opt_s,catS (by simp; omega),opt_s]
   refine hr1 _ ⟨_,rfl,?_,by simp; omega⟩
   obtain ⟨c,rfl,hc⟩ : ∃ c,ec = [c] ∧ (c = 101 ∨ c = 69):=by rcases hec2 with rfl | rfl; exact ⟨_,rfl,.inl rfl⟩; exact ⟨_,rfl,.inr rfl⟩
   refine ⟨sg,decT (numP a),f,c :: (es ++ ([48,48] ++ decT (numP b))),by simp,hsg2,dec_int _,hf,.inr ⟨c,es,_,rfl,hc,?_,by simp,fun x hx=>?_⟩⟩
   ·rcases hes2 with rfl | rfl | rfl | rfl
    ·exact .inl rfl
    ·exact .inr (.inl rfl)
    ·exact .inr (.inr rfl)
    ·exact .inl rfl
   ·rcases List.mem_append.1 hx with hx | hx
    ·simp only [List.mem_cons,List.not_mem_nil,or_false] at hx; rcases hx with rfl | rfl <;> decide
    ·exact (dec_digs _).1.2 x hx
  ·rw [decide_eq_false h4,itF]
   refine hr1 _ ⟨_,rfl,⟨sg,decT (numP a),f,[],by simp,hsg2,dec_int _,hf,.inl rfl⟩,by simp; omega⟩
 obtain ⟨s,rfl,hs,hsl⟩:=hw
 refine ⟨rfl,?_⟩
 have gs : ∀ x : V,gv [x] 0 = x:=fun _=>rfl
 have hleaf : Wf 0 (jn 4 s [] []) s:=.inr (.inr (.inr (.inl ⟨hs,rfl⟩)))
 have p1 : F_Parse objM 25 [.str ([32] ++ s ++ [10])] = some (.tup [jn 4 s [] [],.int .i64 0,.int .i64 0]):=parse_wf (b1:=[32]) (b2:=[10]) hleaf (by omega) (by omega) (fun b hb=>by rw [List.mem_singleton.1 hb]; decide) (fun b hb=>by rw [List.mem_singleton.1 hb]; decide) (by simp; omega)
 have hll : (lawT s).length ≤ 200:=by unfold lawT; simp; omega
 have p2 : F_Parse objM 25 [.str (lawT s)] = some (.tup [lawV s,.int .i64 0,.int .i64 0]):=by
  have:=parse_wf (b1:=[]) (b2:=[]) (N:=25) (law_wf hs) (by omega) (by omega) (fun b hb=>by cases hb) (fun b hb=>by cases hb) (by simp; omega)
  simpa using this
 have p3 : F_json_Text 25 25 [lawV s] = some (.tup [.str (lawT s),.bool true]):=text_wf (law_wf hs) (by omega) (by omega) (by omega)
 have hj : [123,34,122,34,58] ++ s ++ [44,34,97,34,58,91] ++ s ++ [93,44,34,34,58,110,117,108,108,125] = lawT s:=rfl
 have t0 : ∀ x y z : V,extractV (.tup [x,y,z]) 0 = some x:=fun _ _ _=>rfl
 have t1 : ∀ x y z : V,extractV (.tup [x,y,z]) 1 = some y:=fun _ _ _=>rfl
 have t2 : ∀ x y z : V,extractV (.tup [x,y,z]) 2 = some z:=fun _ _ _=>rfl
 have ck : chkK 4 (lawV s) = some (lawV s):=rfl
 rw [gs,catS (by simp; omega),opt_s,catS (by simp; omega),opt_s,c1,p1,opt_s,t0,opt_s,t1,opt_s,t2,opt_s,ckJ,opt_s,catS (by simp; omega),opt_s,catS (by simp; omega),opt_s,catS (by simp; omega),opt_s,catS (by simp; omega),opt_s,hj,c1,p2,opt_s,t0,opt_s,t1,opt_s,t2,opt_s,ck,opt_s,c2,p3,opt_s,ex0,opt_s,ex1,opt_s]
 have v0 : cellD (lawV s) 2 = .sl .ro ([[122],[97],[]].map V.str):=rfl
 have hlen3 : lenL (.sl .ro ([[122],[97],[]].map V.str)) = some (.int .i64 3):=rfl
 have i0 : idxLK false 1 (.sl .ro ([[122],[97],[]].map V.str)) (.int .i64 0) = some (.str [122]):=rfl
 have i2 : idxLK false 1 (.sl .ro ([[122],[97],[]].map V.str)) (.int .i64 2) = some (.str []):=rfl
 have eI : ∀ x : Int,binK .eql (.int .i64 x) (.int .i64 x) = some (.bool true):=fun x=>by rw [hel,decide_eq_true rfl]
 have eS : ∀ x : List UInt8,binK .eql (.str x) (.str x) = some (.bool true):=fun x=>by simp only [sS,if_true,if_false,reduceCtorEq]; simp
 have pT : ∀ x y : V,pickV (.bool true) x y = some x:=fun _ _=>rfl
 have gT : ∀ o : Option V,guardV (.bool true) true o = o:=fun _=>rfl
 have kT : chkBK (.bool true) = some (.bool true):=rfl
 have k2 : binK .add (.str ([123,34,122,34,58] ++ s)) (.str [44,34,97,34,58,91]) = some (.str ([123,34,122,34,58] ++ s ++ [44,34,97,34,58,91])):=catS (by simp; omega)
 have k3 : binK .add (.str ([123,34,122,34,58] ++ s ++ [44,34,97,34,58,91])) (.str s) = some (.str ([123,34,122,34,58] ++ s ++ [44,34,97,34,58,91] ++ s)):=catS (by simp; omega)
 have k4 : binK .add (.str ([123,34,122,34,58] ++ s ++ [44,34,97,34,58,91] ++ s)) (.str [93,44,34,34,58,110,117,108,108,125]) = some (.str (lawT s)):=by rw [catS (by simp; omega),hj]
 simp only [eI,opt_s,cJ0,cJ1,pT,eS,gT,v0,hlen3,i0,i2,kT,c3,k2,k3,k4]
theorem tab0_none {α : Prop} (_ : α) {h : Heap} : Tab0 h:=fun p hp=>by simp [tabs] at hp
end Go.Fbs
