import Derived.Test.YtnmcilaebamncaaPC
import Derived.Test.YtnmcilaebamncaaHU
set_option maxRecDepth 100000
namespace Go.Fbs
open Go.Proofs Go.RowKit
def Emp (x : Value) : Prop:=x = .slice none 0 0 ∨ ∃ b off cap,x = .slice (some ⟨b,off,none⟩) 0 cap
theorem emp_of {κ : Ctx} {w : World} {x : Value} (r : Rep κ w.heap (.sl .ro []) x) : Emp x:=by
 rcases rep_sl r with ⟨_,hx,_⟩ | ⟨b,off,cap,sz,vs,_,_,_,_,_,hx⟩
 ·exact .inl hx
 ·exact .inr ⟨b,off,cap,hx⟩
theorem emp_rep {x : Value} (κ : Ctx) (h : Heap) (e : Emp x) : Rep κ h (.sl .ro []) x:=by
 rcases e with rfl | ⟨b,off,cap,rfl⟩
 ·exact .slnil _ fun i hi=>by cases hi
 ·exact .sl .ro [] b off cap 0 [] (fun i x hx=>by simp at hx) (fun e he=>by simp at he) rfl (fun i c x hc hx=>by simp at hx) (Nat.zero_le _) trivial
theorem emp_form {x : Value} (e : Emp x) : ∃ ad c,x = .slice ad 0 c:=by
 rcases e with rfl | ⟨b,off,cap,rfl⟩
 ·exact ⟨_,_,rfl⟩
 ·exact ⟨_,_,rfl⟩
theorem string_calls0 (b : Nat) (w : World) (hbk : w.heap[b]? = some (.cells #[.pointer none,.slice none 0 0] 80 (0,0))) :
  Calls Try.prog 37 #[.pointer (some ⟨b,0,none⟩)] w fun e w'=>e = .returned (.string ⟨#[]⟩) ∧ Bel w.heap.size w w' :=
 (Any.Builder_String_nil Try.lays169 Try.Builder_Extra_169 w.heap.size b (.pointer none) w hbk).mono fun e w' ⟨h1,h2⟩=>⟨h1,Bel.of h2⟩
theorem parse_calls0 (w : World) : Calls Try.prog 13 #[.string ⟨#[]⟩] w fun e w'=>∃ ad c,e = .returned (.tuple #[.slice ad 0 c,.int .i64 0,.int .i64 0]) ∧ Emp (.slice ad 0 c) ∧ Bel w.heap.size w w':=by
 have hF : F_sche_Parse [.str []] = some (.tup [.sl .ro [],.int .i64 0,.int .i64 0]):=by kernel_rfl
 refine ((ok_sche_Parse.call _ _ hF).1 empty (sealedCtx w.heap) w [.string ⟨#[]⟩] (sealed_mem _) (Reps.cons (.str []) Reps.nil)).mono ?_
 rintro e w' ⟨x,κ',rfl,hx,hv⟩
 cases hv with
 | tup _ xs hl hr =>
  match xs,hl with
  | [a,b,c],_ =>
   have h0:=emp_of (hr 0 _ a rfl rfl)
   have h1:=rep_int (hr 1 _ b rfl rfl)
   have h2:=rep_int (hr 2 _ c rfl rfl)
   subst h1 h2
   obtain ⟨ad,cp,rfl⟩:=emp_form h0
   exact ⟨ad,cp,rfl,h0,hx.os,hx.out.output,hx.out.size,fun i hi=>hx.le.same i hi sealed_owned⟩
theorem same_calls0 {x y : Value} (hx : Emp x) (hy : Emp y) (w : World) : Calls Try.prog 31 #[x,y] w fun e w'=>e = .returned (.bool true) ∧ Bel w.heap.size w w':=by
 have hF : F_sameE [typsV [],typsV []] = some (.bool true):=FsameE ⟨by unfold shortL; simp,fun t ht=>by simp at ht⟩
 refine ((ok_sche_Same.call _ _ hF).1 empty (sealedCtx w.heap) w [x,y] (sealed_mem _) (Reps.cons (emp_rep _ _ hx) (Reps.cons (emp_rep _ _ hy) Reps.nil))).mono ?_
 rintro e w' ⟨x,κ',rfl,hx,hv⟩
 exact ⟨by rw [rep_bool hv],hx.os,hx.out.output,hx.out.size,fun i hi=>hx.le.same i hi sealed_owned⟩
theorem lt_of_some {h : Heap} {b : Nat} {o : Obj} (e : h[b]? = some o) : b < h.size:=(Array.getElem?_eq_some_iff.1 e).1
set_option maxHeartbeats 1600000 in
theorem text0_walk (ad : Option Addr) (c : Nat) (hE : Emp (.slice ad 0 c)) (w : World) : Calls Try.prog 14 #[.slice ad 0 c] w fun e w'=>e = .returned (.tuple #[.string ⟨#[]⟩,.bool true]) ∧ Bel w.heap.size w w':=by
 have hbk : (w.alloc (.cells #[.pointer none,.slice none 0 0] 80)).heap[w.heap.size]? = some (.cells #[.pointer none,.slice none 0 0] 80 (0,0)):=heap_alloc_new w _
 have hB0 : Bel w.heap.size w (w.alloc (.cells #[.pointer none,.slice none 0 0] 80)):=bel_alloc (Bel.refl _ _) (Nat.le_refl _) _
 go_enter Try.func14,Try.ntmps14
 go_wp2
 refine wp_loop_rounds 1 ?_
 rw [rounds_succ]
 go_wp2_with (first
  | (go_at_call 37; refine (string_calls0 w.heap.size _ (by assumption)).mono ?_; rintro e w3 ⟨rfl,hb3⟩; have hk3:=(hb3.block w.heap.size (by first | (simp; done) | omega)).trans (by assumption : _ = some (Obj.cells #[.pointer none,.slice none 0 0] 80 (0,0))); have hB3 : Bel w.heap.size w w3:=Bel.trans (by assumption) (hb3.mono (by first | (simp; done) | omega)))
  | (go_at_call 13; refine (parse_calls0 _).mono ?_; rintro e w2 ⟨ad2,c2,rfl,hE2,hb2⟩; have hk2:=(hb2.block w.heap.size (lt_of_some hk3)).trans hk3; have hB2:=hB3.trans (hb2.mono (Nat.le_of_lt (lt_of_some hk3))))
  | (go_at_call 31; refine (same_calls0 hE2 hE _).mono ?_; rintro e w4 ⟨rfl,hb4⟩; have hk4:=(hb4.block w.heap.size (lt_of_some hk2)).trans hk2; have hB4:=hB2.trans (hb4.mono (Nat.le_of_lt (lt_of_some hk2))); have hl4:=lt_of_some hk4))
 go_ret2
 exact ⟨rfl,by assumption⟩
theorem ok_text0_ : ∀ m,CallOk Try.prog 14 [.sl .ro []] m (.tup [.str [],.bool true]) m:=fun m=>by
 refine callOk_bel fun κ w xs r=>?_
 obtain ⟨x,ys,rfl,r1,r2⟩:=r.inv_cons
 obtain rfl:=r2.inv_nil
 have hE:=emp_of r1
 obtain ⟨ad,c,rfl⟩:=emp_form hE
 exact ⟨_,text0_walk ad c hE w,fun h'=>.tup [.str [],.bool true] [.string ⟨#[]⟩,.bool true] rfl fun i c x hc hx=>by
  match i,hc,hx with
  | 0,hc,hx=>cases hc; cases hx; exact .str _
  | 1,hc,hx=>cases hc; cases hx; exact .bool _⟩
end Go.Fbs
namespace Go.Fbs
open Go.Proofs
def F_text0 : Spec
 | [.sl .ro []]=>some (.tup [.str [],.bool true])
 | _=>none
theorem ok_text0 : SpecL Try.prog n_sche_Text F_text0:=by
 refine ⟨⟨_,_,Try.func14,rfl,by kernel_rfl⟩,fun args v hv=>?_⟩
 unfold F_text0 at hv
 split at hv <;> simp only [Option.some.injEq,reduceCtorEq] at hv
 subst hv
 exact ⟨ok_text0_,rfl⟩
theorem specL_or2 {P : Program} {f : FuncId} {F1 F2 : Spec} (a : SpecL P f F1) (b : SpecL P f F2) : SpecL P f fun args=>F1 args <|> F2 args:=by
 refine ⟨a.1,fun args v hF=>?_⟩
 cases h : F1 args with
 | some v1 =>
  have hF : (F1 args <|> F2 args) = some v:=hF
  rw [h] at hF
  have hv : some v1 = some v:=hF
  simp only [Option.some.injEq] at hv
  subst hv
  exact a.2 args v1 h
 | none =>
  have hF : (F1 args <|> F2 args) = some v:=hF
  rw [h] at hF
  exact b.2 args v hF
def badT : List Typ:=[([116,121,112,101],[])]
def badX : List UInt8:=[116,121,112,101,32,116,121,112,101,10]
noncomputable def F_textB : Spec:=specOf (fun l : List Typ=>[typsV l]) (fun l=>l = badT) (fun _=>.tup [.str [],.bool false])
theorem FtextB : F_textB [typsV badT] = some (.tup [.str [],.bool false]):=specOf_eq (a:=badT) (fun a b h=>typsV_inj (by simpa using h)) rfl
theorem badP : F_sche_Parse [.str badX] = some (.tup [typsV [],vI 5,vI 9]):=by kernel_rfl
section
attribute [local irreducible] FunWpE FunWp opt parseM
theorem textB_wp : FunWp tyT (tab TTX) 70 q_sche_Text [.tmp 2,.tmp 3] (cB Try.f14) [typsV badT] (fun v=>v = .tup [.str [],.bool false]):=by
 have c1 : ∀ args,tab TTX x_strings_Builder_WriteString args = F_x_strings_Builder_WriteString args:=fun _=>rfl
 have c3 : ∀ args,tab TTX x_strings_Builder_String args = F_x_strings_Builder_String args:=fun _=>rfl
 have c5 : ∀ args,tab TTX n_sche_Parse args = F_sche_Parse args:=fun _=>rfl
 refine Eq.mpr (e_sche_Text (tab _) _ (typsV badT)) ?_
 rw [lenTyp,opt_s]
 have hlen : badT.length = 1:=rfl
 rw [hlen]
 refine loopP_inv (fun vs=>∃ (i : Nat) (u : Bool),i ≤ 1 ∧ vs = [.bool u,vI (i : Nat),.sl .ro (bytV (if i = 0 then [] else badX))]) (fun vs=>1 - natOf (gv vs 1)) ⟨0,false,Nat.zero_le _,rfl⟩ ?_
 rintro rr _ ⟨i,u,hi,rfl⟩ hr
 refine ⟨rfl,?_⟩
 simp only [gv_0,gv_s]
 by_cases hlt : i < 1
 ·obtain rfl : i = 0:=by omega
  have hnx:=hr [.bool true,vI ((0 + 1 : Nat) : Int),.sl .ro (bytV badX)] ⟨1,true,by omega,rfl⟩ (by simp only [gv_0,gv_s,natOf]; omega)
  rw [bLt' 0 1 (by omega),opt_s,iteB_true]
  have ht : badT[0]? = some ([116,121,112,101],[]):=rfl
  simp only [if_true]
  rw [typAt' ht,opt_s,(typC _).1,(typC _).2,bSadd _ _ (by simp),opt_s,agBd,opt_s,c1,Fws u (by simp),opt_s,preT,opt_s,ex2,opt_s,ckBd,opt_s,lenRel,opt_s,bGt0,opt_s,iteB_bool,if_neg (by simp)]
  rw [(bdC _ _).1,(bdC _ _).2,agBd,opt_s,c1,Fws true (by simp),opt_s,preT,opt_s,ex2,opt_s,ckBd,opt_s,add1 (by omega),opt_s,(bdC _ _).1,(bdC _ _).2]
  exact hnx
 ·obtain rfl : i = 1:=by omega
  rw [bLf' 1 1 (by omega),opt_s,iteB_false]
  simp only [Nat.one_ne_zero,if_false]
  have hne : binK .neq (vI 9) (.int .i64 0) = some (.bool true):=rfl
  rw [agBd,opt_s,c3,Fst u (by decide) (by decide),opt_s,ex0,opt_s,ex1,opt_s,ckBd,opt_s,c5,badP,opt_s,ex0,opt_s,ex1,opt_s,ex2,opt_s,hne,opt_s,gTF,opt_s,gTF,opt_s,pBool,if_pos rfl,opt_s,iteB_true]
  trivial
end
theorem ok_textB : SpecL Try.prog n_sche_Text F_textB:=by
 refine go_sche_Text (T:=TTX) (TabOk.consE okx_strings_Builder_WriteString (TabOk.consE okx_strings_Builder_Len (TabOk.consE okx_strings_Builder_String (TabOk.cons ok_sche_relText (TabOk.cons ok_sche_Parse (TabOk.cons ok_sche_Same TabOk.nil)))))) fun args v hv=>?_
 obtain ⟨l,rfl,rfl,rfl⟩:=specOf_inv hv
 exact ⟨rfl,by simp [canos,typsV_cano],rfl,textB_wp⟩
noncomputable def F_text : Spec:=fun args=>F_sche_Text args <|> (fun args=>F_text0 args <|> F_textB args) args
theorem ok_text : SpecL Try.prog n_sche_Text F_text:=specL_or2 ok_sche_Text (specL_or2 ok_text0 ok_textB)
theorem FtextN {l : List Typ} (h : ¬ (gdT l ∧ l ≠ [])) : F_sche_Text [typsV l] = none:=by
 cases he : F_sche_Text [typsV l] with
 | none=>rfl
 | some v =>
  obtain ⟨l',h1,h2,_⟩:=specOf_inv he
  have : l = l':=typsV_inj (by simpa using h1)
  subst this
  exact absurd h2 h
theorem FtextA {l : List Typ} (h : gdT l) : F_text [typsV l] = some (.tup [.str (typsTx l),.bool true]):=by
 unfold F_text
 by_cases h0 : l = []
 ·subst h0
  rw [FtextN (fun h=>h.2 rfl)]
  rfl
 ·rw [Ftext h h0]; rfl
theorem badN : ¬ gdT badT:=fun h=>by
 have:=(h.1 _ (List.mem_singleton.2 rfl)).1.1
 revert this
 decide
theorem FtextX : F_text [typsV badT] = some (.tup [.str [],.bool false]):=by
 unfold F_text
 rw [FtextN (fun h=>badN h.1)]
 show (F_text0 [typsV badT] <|> F_textB [typsV badT]) = _
 rw [FtextB]; rfl
def F_true0 : Spec
 | []=>some (.bool true)
 | _=>none
def awS : List UInt8:=[116,121,112,101,32,117,32,116,121,112,101,32,97,32,123,32,114,58,32,117,32,124,32,97,35,114,59,32,115,32,61,32,114,32,43,32,114,45,62,115,32,38,32,40,114,32,45,32,115,41,59,32,125]
def awL : List Typ:=[([117],[]),([97],[([114],[([117],[],[]),([97],[],[114])],[]),([115],[],[(1,[114],[]),(2,[114],[115]),(1,[114],[]),(1,[115],[]),(4,[],[]),(5,[],[]),(3,[],[])])])]
def awT : List UInt8:=[116,121,112,101,32,117,10,116,121,112,101,32,97,32,123,10,9,114,58,32,117,32,124,32,97,35,114,59,10,9,115,32,61,32,114,32,43,32,114,45,62,115,32,38,32,40,114,32,45,32,115,41,59,10,125,10]
theorem awP : parseM awS = (awL,0,0):=by kernel_rfl
theorem awX : typsTx awL = awT:=by kernel_rfl
theorem awF : F_sche_Parse [.str awS] = some (.tup [typsV awL,vI 0,vI 0]):=by
 unfold F_sche_Parse
 simp only
 rw [if_pos (by unfold big; decide),awP]
 rfl
theorem awF2 : F_sche_Parse [.str [116,121,112,101,32,97,32,123,32,114,32,125]] = some (.tup [typsV [],vI 11,vI 9]):=by kernel_rfl
theorem awG : gdT awL:=by
 have h:=parse_G awS
 rw [awP] at h
 obtain ⟨h1,h2,h3⟩:=h
 exact ⟨h1,h2,Nat.le_trans h3 (by decide)⟩
noncomputable abbrev TAw : List (FuncId × Spec):=[(n_sche_Parse,F_sche_Parse),(n_sche_Text,F_text),(n_sche_Same,F_sameE)]
theorem awake_wp : FunWp tyT (tab TAw) 82 q_entaillaw7_awake [.tmp 0] (cB Try.f12) [] (fun v=>v = .bool true):=by
 have c1 : ∀ args,tab TAw n_sche_Parse args = F_sche_Parse args:=fun _=>rfl
 have c2 : ∀ args,tab TAw n_sche_Text args = F_text args:=fun _=>rfl
 have c3 : ∀ args,tab TAw n_sche_Same args = F_sameE args:=fun _=>rfl
 refine Eq.mpr (e_entaillaw7_awake (tab _) _) ?_
 have a1 : aggK [.str [116,121,112,101],.sl .ro []] = some (typW ([116,121,112,101],[])):=rfl
 have a2 : litK 2 [typW ([116,121,112,101],[])] = some (typsV badT):=by kernel_rfl
 have hT:=FtextA awG
 rw [awX] at hT
 rw [c1,show (V.str [116,121,112,101,32,117,32,116,121,112,101,32,97,32,123,32,114,58,32,117,32,124,32,97,35,114,59,32,115,32,61,32,114,32,43,32,114,45,62,115,32,38,32,40,114,32,45,32,115,41,59,32,125]) = .str awS from rfl,awF,opt_s,ex0,opt_s,ex1,opt_s,ex2,opt_s,c2,hT,opt_s,ex0,opt_s,ex1,opt_s,c1,awF2,opt_s,ex0,opt_s,ex1,opt_s,ex2,opt_s,a1,opt_s,a2,opt_s,c2,FtextX,opt_s,ex0,opt_s,ex1,opt_s,c3,FsameE (gdT_eq awG)]
 refine Eq.mpr (?_ : _ = (V.bool true = V.bool true)) rfl
 kernel_rfl
theorem ok_entaillaw7_awake : SpecL Try.prog n_entaillaw7_awake F_true0:=by
 refine go_entaillaw7_awake (T:=TAw) (TabOk.cons ok_sche_Parse (TabOk.cons ok_text (TabOk.cons ok_sche_Same TabOk.nil))) fun args v hv=>?_
 unfold F_true0 at hv
 split at hv <;> simp only [Option.some.injEq,reduceCtorEq] at hv
 subst hv
 exact ⟨rfl,rfl,rfl,awake_wp⟩
end Go.Fbs
namespace Go.Fbs
open Go.Proofs
attribute [local irreducible] FunWpE FunWp opt parseM
theorem gd_parse {s : List UInt8} (h : s.length ≤ 600) : gdT (parseM s).1:=by
 obtain ⟨h1,h2,h3⟩:=parse_G s
 exact ⟨h1,h2,by omega⟩
theorem FParseB {l : List UInt8} (h : l.length ≤ 600) : F_sche_Parse [.str l] = some (.tup [typsV (parseM l).1,vI (parseM l).2.1,vI (parseM l).2.2]):=by
 unfold F_sche_Parse
 simp only
 rw [if_pos (by unfold big; omega)]
noncomputable def F_entaillaw7_ScheBack : Spec:=specOf (fun q : List UInt8 × List Int=>[.str q.1,intsV q.2]) (fun _=>True) (fun _=>.bool true)
theorem FBack (s : List UInt8) (l : List Int) : F_entaillaw7_ScheBack [.str s,intsV l] = some (.bool true):=specOf_eq (a:=(s,l)) (fun a b h=>by
 simp only [List.cons.injEq,and_true,V.str.injEq,true_and] at h
 exact Prod.ext h.1 (intsV_inj h.2)) trivial
noncomputable abbrev TBk : List (FuncId × Spec):=[(n_entaillaw7_awake,F_true0),(n_sche_Parse,F_sche_Parse),(n_sche_Text,F_text),(n_entailref6_Same,F_sameE),(n_entaillaw7_Made,F_entaillaw7_Made)]
theorem back_wp (s : List UInt8) (l : List Int) : FunWp tyT (tab TBk) 72 q_entaillaw7_ScheBack [.tmp 4] (cB Try.f4) [.str s,intsV l] (fun r=>r = .bool true):=by
 have c0 : tab TBk n_entaillaw7_awake [] = some (.bool true):=rfl
 have c1 : ∀ args,tab TBk n_sche_Parse args = F_sche_Parse args:=fun _=>rfl
 have c2 : ∀ args,tab TBk n_sche_Text args = F_text args:=fun _=>rfl
 have c3 : ∀ args,tab TBk n_entailref6_Same args = F_sameE args:=fun _=>rfl
 have c4 : ∀ args,tab TBk n_entaillaw7_Made args = F_entaillaw7_Made args:=fun _=>rfl
 refine Eq.mpr (e_entaillaw7_ScheBack (tab _) _ (.str s) (intsV l)) ?_
 rw [lenS_s,opt_s,bGtr,opt_s,iteB_bool]
 by_cases hl : (600 : Int) < (s.length : Int)
 ·rw [if_pos (by simpa using hl),c0,opt_s]
 ·rw [if_neg (by simpa using hl)]
  refine loopP_inv (fun vs=>∃ (i : Nat) (u : List UInt8),i ≤ 2 ∧ u.length ≤ 600 ∧ vs = [.str u,vI (i : Nat)]) (fun vs=>2 - natOf (gv vs 1)) ⟨0,s,by omega,by omega,rfl⟩ ?_
  rintro rr _ ⟨i,u,hi,hu,rfl⟩ hr
  refine ⟨rfl,?_⟩
  simp only [gv_0,gv_s]
  rw [lss2,opt_s,iteB_bool]
  by_cases hlt : i < 2
  ·rw [if_pos (by simpa using hlt),c1,FParseB hu,opt_s,ex0,opt_s,ex1,opt_s,ex2,opt_s,bEql,opt_s]
   have hG:=gd_parse hu
   generalize (parseM u).1 = ts at *
   generalize (parseM u).2.1 = pl at *
   generalize (parseM u).2.2 = er at *
   refine jn (X:=[]) ?_ ?_
   ·intro r1 h1
    rw [iteB_bool]
    by_cases he : er = 0
    ·rw [if_pos (by simpa using he),c2,FtextA hG,opt_s,ex0,opt_s,ex1,opt_s,c1,Fparse hG,opt_s,ex0,opt_s,ex1,opt_s,ex2,opt_s,c2,FtextA hG,opt_s,ex0,opt_s,ex1,opt_s,not_bool,opt_s]
     rw [neSelf,opt_s,pBool]
     simp only [Bool.not_true,Bool.false_eq_true,if_false]
     rw [opt_s,gFF,c3,FsameE (gdT_eq hG),opt_s,gFF,not_bool,opt_s,pBool]
     simp only [Bool.not_true,Bool.false_eq_true,if_false]
     rw [opt_s,neS_,opt_s,pBool]
     simp only [Bool.false_eq_true,if_false]
     rw [opt_s,opt_s,pBool]
     simp only [Bool.false_eq_true,if_false]
     rw [opt_s,iteB_false]
     exact h1
    ·rw [if_neg (by simpa using he)]
     exact h1
   ·refine ⟨rfl,?_⟩
    rw [c4,FMade,opt_s,add1 (by omega),opt_s]
    have hml : (madeT l).length ≤ 209:=upT_le l 2
    exact hr _ ⟨i + 1,madeT l,by omega,by omega,rfl⟩ (by simp only [gv_0,gv_s,natOf]; omega)
  ·rw [if_neg (by simpa using hlt),c0,opt_s]
theorem ok_entaillaw7_ScheBack : SpecL Try.prog n_entaillaw7_ScheBack F_entaillaw7_ScheBack:=by
 refine go_entaillaw7_ScheBack (T:=TBk) (TabOk.cons ok_entaillaw7_awake (TabOk.cons ok_sche_Parse (TabOk.cons ok_text (TabOk.cons ok_entailref6_Same (TabOk.cons ok_entaillaw7_Made TabOk.nil))))) fun args v hv=>?_
 obtain ⟨⟨s,l⟩,rfl,_,rfl⟩:=specOf_inv hv
 exact ⟨rfl,by simp [canos,intsV_cano,V.cano],rfl,back_wp s l⟩
end Go.Fbs
