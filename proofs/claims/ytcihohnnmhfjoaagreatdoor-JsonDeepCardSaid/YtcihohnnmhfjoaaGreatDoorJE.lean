/- JsonDeep: the law, over what runs tell. -/
import Derived.Test.YtcihohnnmhfjoaaGreatDoorJD
import Derived.Test.YtcihohnnmhfjoaaGreatDoorJF
import Derived.Test.YtcihohnnmhfjoaaGreatDoorS2
set_option linter.unusedVariables false
set_option linter.unusedSimpArgs false
set_option linter.unusedSectionVars false
set_option maxRecDepth 100000
namespace Go.Fbs
open Go.Proofs
theorem sB_len (o : Bool) : ∀ n,(sB o n).length = (bif o then 5 else 1) * n
 | 0=>by cases o <;> rfl
 | n + 1=>by rw [sB,List.length_append,sB_len o n]; cases o <;> simp <;> omega
theorem tB_len (o : Bool) : ∀ n,(tB o n).length = n
 | 0=>rfl
 | n + 1=>by rw [tB,List.length_append,tB_len o n]; cases o <;> rfl
theorem sB_head (o : Bool) : ∀ n,(sB o (n + 1)).head? = some (bif o then 123 else 91)
 | 0=>by cases o <;> rfl
 | n + 1=>by
  rw [sB,List.head?_append,sB_head o n]; rfl
theorem txt_head (o : Bool) (n : Nat) : (txtJ o (n + 1)).head? = some (bif o then 123 else 91):=by
 unfold txtJ
 rw [List.head?_append,List.head?_append,sB_head]; rfl
theorem txt_len (o : Bool) (n : Nat) : (txtJ o n).length = bif o then 6 * n + 1 else 2 * n:=by
 unfold txtJ
 rw [List.length_append,List.length_append,sB_len,tB_len]
 cases o <;> simp <;> omega
def keyO (s : List UInt8) : Bool:=s.head? == some 123
def keyN (s : List UInt8) : Nat:=bif keyO s then (s.length - 1) / 6 else s.length / 2
theorem key_txt (o : Bool) (n : Nat) : keyO (txtJ o (n + 1)) = o ∧ keyN (txtJ o (n + 1)) = n + 1:=by
 have h : keyO (txtJ o (n + 1)) = o:=by unfold keyO; rw [txt_head]; cases o <;> rfl
 refine ⟨h,?_⟩
 unfold keyN
 rw [h,txt_len]
 cases o
 ·simp only [cond_false]; omega
 ·simp only [cond_true]; omega
def F_json_ParseD : Spec:=fun args=>match args with
 | [.str s]=>if 1 ≤ keyN s ∧ keyN s ≤ 32 ∧ s = txtJ (keyO s) (keyN s) then some (ansJ (keyO s) (keyN s)) else none
 | _=>none
theorem parseD (o : Bool) {n : Nat} (h : n < 32) : F_json_ParseD [.str (txtJ o (n + 1))] = some (ansJ o (n + 1)):=by
 have k:=key_txt o n
 simp only [F_json_ParseD]
 rw [k.1,k.2,if_pos ⟨by omega,by omega,rfl⟩]
theorem canoJ (k : Int) (s : List UInt8) (ks ls : List V) (h1 : erAs ks = ks) (h2 : erAs ls = ls) : (jn k s ks ls).erA = jn k s ks ls:=by
 simp [jn,V.erA,erAs,h1,h2]
theorem jvL_erA : ∀ n,(jvL n).erA = jvL n
 | 0=>rfl
 | n + 1=>canoJ _ _ _ _ rfl (by simp [erAs,jvL_erA n])
theorem jvO_erA : ∀ n,(jvO n).erA = jvO n
 | 0=>rfl
 | n + 1=>canoJ _ _ _ _ rfl (by simp [erAs,jvO_erA n])
theorem ansJ_erA (o : Bool) (n : Nat) : (ansJ o n).erA = ansJ o n:=by
 unfold ansJ
 cases Nat.ble n 20
 ·rfl
 ·cases o <;> simp [V.erA,erAs,jvL_erA,jvO_erA]
theorem ok_json_ParseD (hp : ∀ (o : Bool) (n : Nat),n < 32 → pRunJ o (n + 1) = true) : SpecL Tryz.prog n_json_Parse F_json_ParseD:=by
 refine specL_runsV ⟨Tryz.f6,Rx.bodyOf Tryz.f6,Tryz.func6,by kernel_rfl,by kernel_rfl⟩ fun args v hF=>?_
 unfold F_json_ParseD at hF
 split at hF
 ·rename_i s
  split at hF
  ·rename_i hc
   simp only [Option.some.injEq] at hF
   obtain ⟨n,hn⟩ : ∃ n,keyN s = n + 1:=⟨keyN s - 1,by omega⟩
   rw [hn] at hF hc
   obtain ⟨r,H1,h1,h2⟩:=parse_callJ (hp (keyO s) n (by omega))
   rw [← hc.2.2] at h2
   exact ⟨_,r,H1,80,rfl,by rw [← hF]; exact h1,by rw [← hF]; exact ansJ_erA _ _,h2⟩
  ·simp at hF
 ·simp at hF
def F_json_Parse : Spec:=fun args=>F_json_ParseD args <|> F_json_Parse1 args
theorem ok_json_Parse (hp : ∀ (o : Bool) (n : Nat),n < 32 → pRunJ o (n + 1) = true) : SpecL Tryz.prog n_json_Parse F_json_Parse:=specL_or (ok_json_ParseD hp) ok_json_Parse1
theorem F_deep (o : Bool) {n : Nat} (h : n < 32) : F_json_Parse [.str (txtJ o (n + 1))] = some (ansJ o (n + 1)):=by
 show (F_json_ParseD _ <|> _) = _
 rw [parseD o h]; rfl
theorem F_ones {k : Nat} (h1 : 1000 ≤ k) (h2 : k ≤ 300000) : F_json_Parse [.str (List.replicate k 49)] = some (if 200000 < k then .tup [.agg [vI 0,.str [],.sl .ro [],.sl .ro []],vI 0,vI 8] else .tup [vOnes (List.replicate k 49),vI 0,vI 0]):=by
 have hn : F_json_ParseD [.str (List.replicate k 49)] = none:=by
  simp only [F_json_ParseD]
  rw [if_neg]
  rintro ⟨_,h,_⟩
  have hk : keyO (List.replicate k 49) = false:=by
   obtain ⟨m,rfl⟩ : ∃ m,k = m + 1:=⟨k - 1,by omega⟩
   rw [List.replicate_succ]; rfl
  unfold keyN at h
  rw [hk,List.length_replicate] at h
  simp only [cond_false] at h
  omega
 show (F_json_ParseD _ <|> F_json_Parse1 _) = _
 rw [hn,show (none <|> F_json_Parse1 [V.str (List.replicate k 49)]) = F_json_Parse1 [V.str (List.replicate k 49)] from by cases F_json_Parse1 [V.str (List.replicate k 49)] <;> rfl]
 simp only [F_json_Parse1,List.length_replicate]
 rw [if_pos ⟨by unfold big; omega,by simp [isOnes],by omega⟩]
def noneN (v : V) : Prop:=∃ i,i < 10 ∧ v = noneV i
open Classical in
noncomputable def F_json_Text : Spec:=fun args=>match args with
 | [v]=>if noneN v then some noT else none
 | _=>none
theorem ok_json_Text (ht : ∀ i,i < 10 → tRunJ i = true) : SpecL Tryz.prog n_json_Text F_json_Text:=by
 refine specL_listsV ⟨Tryz.f7,Rx.bodyOf Tryz.f7,Tryz.func7,by kernel_rfl,by kernel_rfl⟩ fun args v hF=>?_
 unfold F_json_Text at hF
 split at hF
 ·rename_i u
  split at hF
  ·rename_i hc
   simp only [Option.some.injEq] at hF
   obtain ⟨i,hi,rfl⟩:=hc
   obtain ⟨r,H1,h1,h2⟩:=ansW_ok (ht i hi)
   refine ⟨noneK i,noneT i,noneKs i,noneLs i,1,4,noneO1 i,noneR1 i,noneO2 i,noneR2 i,r,H1,5,rfl,none_la1 i hi,none_la2 i hi,by rw [← hF]; exact h2,by rw [← hF]; rfl,?_⟩
   exact callX (by decide) h1
  ·simp at hF
 ·simp at hF
theorem F_none {i : Nat} (h : i < 10) : F_json_Text [noneV i] = some noT:=by
 simp only [F_json_Text]
 rw [if_pos ⟨i,h,rfl⟩]
theorem ok_entaillaw22_awake : SpecL Tryz.prog n_entaillaw22_awake F_true:=by
 obtain ⟨H1,h⟩:=Rx.awakeCall
 exact specL_true ⟨Tryz.f8,Rx.bodyOf Tryz.f8,Tryz.func8,by kernel_rfl,by kernel_rfl⟩ h
theorem convBS_ones : ∀ k : Nat,convBS (.sl .ro (List.replicate k (.int .u8 49))) = some (.str (List.replicate k 49)):=by
 intro k
 simp only [convBS]
 refine Option.map_eq_some_iff.2 ⟨List.replicate k 49,?_,rfl⟩
 induction k with
 | zero=>rfl
 | succ k ih=>rw [List.replicate_succ,List.mapM_cons,ih]; rfl
theorem make_ones (K : Nat) (h : K ≤ 300000) : makeK (.int .u8 49) 1 (vI K) (vI K) = some (.sl .ro (List.replicate K (.int .u8 49))):=by
 simp only [makeK]
 rw [if_pos (by omega)]
 simp
theorem bMaskJ {a : Int} {j : Nat} (hj : j < 63) {m : Int} (hm : m = ((2 ^ j - 1 : Nat) : Int)) : ∃ n : Nat,n < 2 ^ j ∧ binK .and (.int .i64 a) (.int .i64 m) = some (.int .i64 (n : Int)):=by
 have hp : 0 < (2 : Nat) ^ j:=Nat.pow_pos (by omega)
 have h1:=Int.emod_nonneg a (show ((2 ^ j : Nat) : Int) ≠ 0 by omega)
 have h2:=Int.emod_lt_of_pos a (show (0 : Int) < ((2 ^ j : Nat) : Int) by omega)
 refine ⟨(a % ((2 ^ j : Nat) : Int)).toNat,by omega,?_⟩
 rw [hm,bAndMask hj,Int.toNat_of_nonneg h1]
def noneL : List V:=(List.range 10).map noneV
def F_entaillaw22_JsonDeep : Spec:=fun args=>match args with
 | [.int .i64 _,.bool _,.int .i64 _,.int .i64 _]=>some (.bool true)
 | _=>none
noncomputable abbrev TDp : List (FuncId × Spec):=[(n_json_Parse,F_json_Parse),(n_json_Text,F_json_Text),(n_entaillaw22_awake,F_true)]
theorem okIf_entaillaw22_JsonDeep (hp : ∀ (o : Bool) (n : Nat),n < 32 → pRunJ o (n + 1) = true) (ht : ∀ i,i < 10 → tRunJ i = true) : SpecL Tryz.prog n_entaillaw22_JsonDeep F_entaillaw22_JsonDeep:=by
 refine go_entaillaw22_JsonDeep (T:=TDp) (TabOk.cons (ok_json_Parse hp) (TabOk.cons (ok_json_Text ht) (TabOk.cons ok_entaillaw22_awake TabOk.nil))) fun args v hv=>?_
 generalize hT : tab TDp = p
 have c1 : ∀ args,p n_json_Parse args = F_json_Parse args:=fun _=>by rw [← hT]; rfl
 have c2 : ∀ args,p n_json_Text args = F_json_Text args:=fun _=>by rw [← hT]; rfl
 have c3 : p n_entaillaw22_awake [] = some (.bool true):=by rw [← hT]; rfl
 clear hT
 unfold F_entaillaw22_JsonDeep at hv
 split at hv <;> (try simp only [Option.some.injEq,reduceCtorEq] at hv)
 rename_i a o k which
 subst hv
 refine ⟨rfl,rfl,rfl,?_⟩
 rw [e_entaillaw22_JsonDeep]
 obtain ⟨n0,h0,e0⟩:=bMaskJ (a:=a) (j:=5) (by omega) (m:=31) rfl
 obtain ⟨n2,h2,e2⟩:=bMaskJ (a:=k) (j:=5) (by omega) (m:=31) rfl
 obtain ⟨n3,h3,e3⟩:=bMaskJ (a:=which) (j:=8) (by omega) (m:=255) rfl
 have w0 : IntKind.i64.wrap ((n0 : Int) + 1) = ((n0 + 1 : Nat) : Int):=by rw [wrap_in (by omega) (by omega)]; omega
 have w2 : IntKind.i64.wrap (199990 + (n2 : Int)) = ((199990 + n2 : Nat) : Int):=by rw [wrap_in (by omega) (by omega)]; omega
 have wi : ∀ i : Nat,i ≤ 1000 → IntKind.i64.wrap ((i : Int) + 1) = ((i + 1 : Nat) : Int):=fun i hi=>by rw [wrap_in (by omega) (by omega)]; omega
 simp only [e0,e2,e3,opt_s,bAdd]
 rw [w0,w2]
 refine loopP_inv (fun vs=>∃ i : Nat,vs = [.str (sB o i),.str (tB o i),vI i] ∧ i ≤ n0 + 1) (fun vs=>n0 + 1 - natOf (gv vs 2)) ⟨0,rfl,Nat.zero_le _⟩ ?_
 rintro r _ ⟨i,rfl,hi⟩ hr
 refine ⟨rfl,?_⟩
 simp only [gv_0,gv_s,bLss,opt_s]
 by_cases hlt : i < n0 + 1
 ·have hlt' : (i : Int) < ((n0 + 1 : Nat) : Int):=by omega
  have l1:=sB_len o i
  have l2:=tB_len o i
  have step:=hr [.str (sB o (i + 1)),.str (tB o (i + 1)),vI (i + 1 : Nat)] ⟨i + 1,rfl,by omega⟩ (by simp [gv,natOf]; omega)
  cases o with
  | true =>
   simp only [cond_true] at l1
   have a1:=bSadd (sB true i) [123,34,97,34,58] (by rw [l1]; simp; omega)
   have a2:=bSadd (tB true i) [125] (by rw [l2]; simp; omega)
   simp only [hlt',decide_true,iteB_true,iteB_bool,if_true,opt_s,a1,a2,bAdd,wi i (by omega)]
   exact step
  | false =>
   simp only [cond_false] at l1
   have a1:=bSadd (sB false i) [91] (by rw [l1]; simp; omega)
   have a2:=bSadd (tB false i) [93] (by rw [l2]; simp; omega)
   simp only [hlt',decide_true,iteB_true,iteB_bool,if_true,opt_s,a1,a2,bAdd,wi i (by omega),Bool.false_eq_true,if_false]
   exact step
 have hlt' : ¬ (i : Int) < ((n0 + 1 : Nat) : Int):=by omega
 obtain rfl : i = n0 + 1:=by omega
 clear hr hi hlt
 simp only [hlt',decide_false,iteB_false,iteB_bool,if_false,Bool.false_eq_true]
 have l1:=sB_len o (n0 + 1)
 have l2:=tB_len o (n0 + 1)
 have hl1 : (sB o (n0 + 1)).length ≤ 5 * (n0 + 1):=by rw [l1]; cases o <;> simp only [cond_true,cond_false] <;> omega
 refine joinP_inv (fun w=>w = [.str (sB o (n0 + 1) ++ (bif o then [49] else []))]) ?_ ?_
 rotate_left
 ·intro r hr
  cases o with
  | true =>
   have a1:=bSadd (sB true (n0 + 1)) [49] (by simp; omega)
   simp only [if_true,a1,opt_s]
   exact hr _ rfl
  | false =>
   simp only [Bool.false_eq_true,if_false]
   exact hr _ (by rw [cond_false,List.append_nil])
 rintro _ rfl
 refine ⟨rfl,?_⟩
 have a1:=bSadd (sB o (n0 + 1) ++ (bif o then [49] else [])) (tB o (n0 + 1)) (by
  rw [List.length_append,l2]
  have : (bif o then [49] else [] : List UInt8).length ≤ 1:=by cases o <;> simp
  omega)
 have f1 : F_json_Parse [.str ((sB o (n0 + 1) ++ (bif o then [49] else [])) ++ tB o (n0 + 1))] = some (ansJ o (n0 + 1)):=F_deep o h0
 have mk:=make_ones (199990 + n2) (by omega)
 have f2:=F_ones (k:=199990 + n2) (by omega) (by omega)
 have x0 : ∃ cs,cs.length = 4 ∧ cs.all sc = true ∧ ansJ o (n0 + 1) = .tup [.agg cs,.int .i64 (if n0 + 1 ≤ 20 then 0 else (bif o then 100 else 20)),.int .i64 (if n0 + 1 ≤ 20 then 0 else 10)]:=by
  unfold ansJ
  by_cases hle : n0 + 1 ≤ 20
  ·rw [Nat.ble_eq_true_of_le hle,cond_true,if_pos hle,if_pos hle]
   cases o with
   | true=>exact ⟨_,rfl,rfl,rfl⟩
   | false=>cases n0 <;> exact ⟨_,rfl,rfl,rfl⟩
  ·have hb : Nat.ble (n0 + 1) 20 = false:=by
    cases hq : Nat.ble (n0 + 1) 20 with
    | false=>rfl
    | true=>exact absurd (Nat.le_of_ble_eq_true hq) hle
   rw [hb,cond_false,if_neg hle,if_neg hle]
   exact ⟨_,rfl,rfl,rfl⟩
 obtain ⟨cs,hcs,hsc,hans⟩:=x0
 have k1 : chkK 4 (.agg cs) = some (.agg cs):=chk_agg hcs hsc
 have x2 : ∃ cs2,cs2.length = 4 ∧ cs2.all sc = true ∧ (if 200000 < 199990 + n2 then V.tup [.agg [vI 0,.str [],.sl .ro [],.sl .ro []],vI 0,vI 8] else .tup [vOnes (List.replicate (199990 + n2) 49),vI 0,vI 0]) = .tup [.agg cs2,vI 0,.int .i64 (if 200000 < 199990 + n2 then 8 else 0)]:=by
  by_cases hle : 200000 < 199990 + n2
  ·rw [if_pos hle,if_pos hle]; exact ⟨_,rfl,rfl,rfl⟩
  ·rw [if_neg hle,if_neg hle]; exact ⟨_,rfl,rfl,rfl⟩
 obtain ⟨cs2,hcs2,hsc2,hans2⟩:=x2
 rw [hans2] at f2
 have k2 : chkK 4 (.agg cs2) = some (.agg cs2):=chk_agg hcs2 hsc2
 simp only [gv_0,gv_s,a1,opt_s,c1,f1,hans,ext_tup,List.getElem?_cons_zero,List.getElem?_cons_succ,k1,mk,convBS_ones,f2,k2]
 refine joinP_inv (fun w=>w = [vI (bif o then 5 else 1)]) ?_ ?_
 rotate_left
 ·intro r hr
  cases o with
  | true=>simp only [if_true]; exact hr _ rfl
  | false=>simp only [Bool.false_eq_true,if_false]; exact hr _ rfl
 rintro _ rfl
 refine ⟨rfl,?_⟩
 have q0 : (aggK [(.int .i64 0),(.str []),(.sl .ro []),(.sl .ro [])]) = some (noneV 0):=rfl
 have q1 : (aggK [(.int .i64 8),(.str []),(.sl .ro []),(.sl .ro [])]) = some (noneV 1):=rfl
 have q2 : (aggK [(.int .i64 4),(.str []),(.sl .ro []),(.sl .ro [])]) = some (noneV 2):=rfl
 have q3 : (aggK [(.int .i64 4),(.str [48,49]),(.sl .ro []),(.sl .ro [])]) = some (noneV 3):=rfl
 have q4 : (aggK [(.int .i64 5),(.str [128]),(.sl .ro []),(.sl .ro [])]) = some (noneV 4):=rfl
 have q5a : (litK 1 [(.str [97])]) = some (.sl .ro [.str [97]]):=rfl
 have q5 : (aggK [(.int .i64 7),(.str []),(.sl .ro [.str [97]]),(.sl .ro [])]) = some (noneV 5):=rfl
 have q6a : (litK 1 [(.str [97]),(.str [97])]) = some (.sl .ro [.str [97],.str [97]]):=rfl
 have q6b : (aggK [(.int .i64 1),(.str []),(.sl .ro []),(.sl .ro [])]) = some (jn 1 [] [] []):=rfl
 have q6c : (litK 4 [jn 1 [] [] [],jn 1 [] [] []]) = some (.sl .ro [jn 1 [] [] [],jn 1 [] [] []]):=rfl
 have q6 : (aggK [(.int .i64 7),(.str []),(.sl .ro [.str [97],.str [97]]),(.sl .ro [jn 1 [] [] [],jn 1 [] [] []])]) = some (noneV 6):=rfl
 have q7a : (litK 4 [noneV 0]) = some (.sl .ro [noneV 0]):=rfl
 have q7 : (aggK [(.int .i64 6),(.str []),(.sl .ro []),(.sl .ro [noneV 0])]) = some (noneV 7):=rfl
 have q8 : (aggK [(.int .i64 1),(.str [120]),(.sl .ro []),(.sl .ro [])]) = some (noneV 8):=rfl
 have q9a : (litK 4 [jn 1 [] [] []]) = some (.sl .ro [jn 1 [] [] []]):=rfl
 have q9 : (aggK [(.int .i64 3),(.str []),(.sl .ro []),(.sl .ro [jn 1 [] [] []])]) = some (noneV 9):=rfl
 have qa : (litK 4 [noneV 0,noneV 1,noneV 2,noneV 3,noneV 4,noneV 5,noneV 6,noneV 7,noneV 8,noneV 9]) = some (.sl .ro noneL):=rfl
 have ql : lenL (.sl .ro noneL) = some (.int .i64 ((10 : Nat) : Int)):=rfl
 have qr : binK .rem (.int .i64 (n3 : Int)) (.int .i64 ((10 : Nat) : Int)) = some (.int .i64 ((n3 % 10 : Nat) : Int)):=by
  have h : ¬ ((10 : Nat) : Int) = 0:=by omega
  simp only [binK,intBin,if_true]
  rw [if_neg h,Int.ofNat_tmod]
 have hm : n3 % 10 < 10:=Nat.mod_lt _ (by omega)
 have qx : idxLK true 4 (.sl .ro noneL) (.int .i64 ((n3 % 10 : Nat) : Int)) = some (noneV (n3 % 10)):=by
  refine idxL_agg (cs:=[.int .i64 (noneK (n3 % 10)),.str (noneT (n3 % 10)),.sl .ro (noneKs (n3 % 10)),.sl .ro (noneLs (n3 % 10))]) ?_ rfl rfl _
  unfold noneL
  rw [List.getElem?_map,List.getElem?_range hm]
  rfl
 have ft:=F_none hm
 have bs : binK .eql (.str []) (.str []) = some (.bool true):=rfl
 simp only [q0,q1,q2,q3,q4,q5a,q5,q6a,q6b,q6c,q6,q7a,q7,q8,q9a,q9,qa,ql,qr,qx,opt_s,c2,ft,noT,ext_tup,List.getElem?_cons_zero,List.getElem?_cons_succ,bs,bEql,bLeq,bGtr,gv_0,gv_s,bMul]
 have d1 : decide (((n0 + 1 : Nat) : Int) ≤ 20) = decide (n0 + 1 ≤ 20):=by rw [decide_eq_decide]; omega
 have d2 : decide ((200000 : Int) < ((199990 + n2 : Nat) : Int)) = decide (200000 < 199990 + n2):=by rw [decide_eq_decide]; omega
 rw [d1,d2]
 have z1 : IntKind.i64.wrap (20 * 5) = 100:=by decide
 have z2 : IntKind.i64.wrap (20 * 1) = 20:=by decide
 clear mk f2 hans hans2 e0 e2 e3 w0 w2 wi
 by_cases p0 : n0 + 1 ≤ 20 <;> by_cases p2 : 200000 < 199990 + n2 <;> cases o <;>
  simp only [p0,p2,if_true,if_false,decide_true,decide_false,cond_true,cond_false,z1,z2,Int.reduceEq,c3,if_true,if_false,Bool.false_eq_true,Bool.true_eq_false,reduceCtorEq,opt_s,gBool,gTT,gFF,gTF,gFT,gU,pBool,orN,andN,orI,andI,V.bool.injEq,Bool.true_and,Bool.and_true,Bool.false_and,Bool.and_false,Bool.true_or,Bool.or_true,Bool.false_or,Bool.or_false,Bool.not_true,Bool.not_false,iteB_bool,iteB_true,iteB_false,not_bool,chkB_bool,chkB_undef,bGeq,bLeq,bLss,bGtr,bEql,bNeq,bAdd,bSub,bMul,bSeq,bSne,bSlt,eqB_eq,mmMin,mmMax,ext_tup,cellD_agg,convI_int,lenS_s,lenL_s,gv_0,gv_s,beq_self_eq_true,bne] <;> rfl
end Go.Fbs
