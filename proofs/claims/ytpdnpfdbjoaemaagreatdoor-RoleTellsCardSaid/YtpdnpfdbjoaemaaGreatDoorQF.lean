import Derived.Test.YtpdnpfdbjoaemaaGreatDoorGT
import Derived.Test.YtpdnpfdbjoaemaaGreatDoorS2
import Derived.Test.YtpdnpfdbjoaemaaGreatDoorNShelf
import Derived.Test.YtpdnpfdbjoaemaaGreatDoorQC
set_option linter.unusedSimpArgs false
set_option linter.unusedVariables false
set_option linter.unusedSectionVars false
set_option maxRecDepth 100000
namespace Go.Fbs
open Go.Proofs
open Classical in
noncomputable def specOf {α : Type} (c : α → List V) (ok : α → Prop) (r : α → V) : Spec:=fun words=>if h : ∃ a,words = c a ∧ ok a then some (r (Classical.choose h)) else none
theorem specOf_eq {α : Type} {c : α → List V} {ok : α → Prop} {r : α → V} (inj : ∀ a b,c a = c b → a = b) {a : α} (h : ok a) : specOf c ok r (c a) = some (r a):=by
 have hex : ∃ b,c a = c b ∧ ok b:=⟨a,rfl,h⟩
 unfold specOf
 rw [dif_pos hex,← inj _ _ (Classical.choose_spec hex).1]
theorem specOf_inv {α : Type} {c : α → List V} {ok : α → Prop} {r : α → V} {words : List V} {v : V} (h : specOf c ok r words = some v) : ∃ a,words = c a ∧ ok a ∧ v = r a:=by
 unfold specOf at h
 split at h
 ·rename_i hex
  simp only [Option.some.injEq] at h
  exact ⟨_,(Classical.choose_spec hex).1,(Classical.choose_spec hex).2,h.symm⟩
 ·simp at h
def bigT : Nat:=1000000
def wrdW (w : Wrd) : V:=.agg [.str w.1,vI w.2]
def wrdsV (l : List Wrd) : V:=.sl .ro (l.map wrdW)
def linW (l : Lin) : V:=.agg [vI l.1,wrdsV l.2]
def linsV (l : List Lin) : V:=.sl .ro (l.map linW)
theorem wrdsV_cano (l : List Wrd) : (wrdsV l).cano = true:=by
 simp only [wrdsV,V.cano]
 exact canos_map fun w=>rfl
theorem linW_cano (l : Lin) : (linW l).cano = true:=by
 simp only [linW,V.cano,canos,wrdsV_cano,Bool.and_self]
theorem linsV_cano (l : List Lin) : (linsV l).cano = true:=by
 simp only [linsV,V.cano]
 exact canos_map linW_cano
def F_strings_TrimSuffix : Spec
 | [.str s,.str p]=>if s.length ≤ bigT then some (.str (Lib.trimSuffix s p)) else none
 | _=>none
theorem ok_strings_TrimSuffix : SpecL Tryz.prog n_strings_TrimSuffix F_strings_TrimSuffix:=by
 refine ⟨⟨_,_,Tryz.func53,rfl,by kernel_rfl⟩,fun args v hv=>?_⟩
 unfold F_strings_TrimSuffix at hv
 split at hv <;> simp only [Option.ite_none_right_eq_some,Option.some.injEq,reduceCtorEq] at hv
 rename_i s p
 obtain ⟨hl,rfl⟩:=hv
 refine ⟨fun m=>callOk_same fun κ w xs r=>⟨_,by rw [reps_str2 r]; exact Tryz.strings_TrimSuffix ⟨⟨s⟩⟩ ⟨⟨p⟩⟩ w (by show s.length ≤ _; unfold bigT at hl; omega),.str _⟩,rfl⟩
def F_strings_Contains : Spec
 | [.str s,.str [c]]=>some (.bool (decide (0 ≤ Lib.indexByte s c)))
 | _=>none
theorem ok_strings_Contains : SpecL Tryz.prog n_strings_Contains F_strings_Contains:=by
 refine ⟨⟨_,_,Tryz.func54,rfl,by kernel_rfl⟩,fun args v hv=>?_⟩
 unfold F_strings_Contains at hv
 split at hv <;> simp only [Option.some.injEq,reduceCtorEq] at hv
 rename_i s c
 subst hv
 exact ⟨fun m=>callOk_same fun κ w xs r=>⟨_,by rw [reps_str2 r]; exact Tryz.strings_Contains_one ⟨⟨s⟩⟩ c w,.bool _⟩,rfl⟩
def F_strings_IndexByte : Spec
 | [.str s,.int .u8 c]=>some (vI (Lib.indexByte s c.toNat.toUInt8))
 | _=>none
theorem ok_strings_IndexByte : SpecL Tryz.prog n_strings_IndexByte F_strings_IndexByte:=by
 refine ⟨⟨_,_,Tryz.func55,rfl,by kernel_rfl⟩,fun args v hv=>?_⟩
 unfold F_strings_IndexByte at hv
 split at hv <;> simp only [Option.some.injEq,reduceCtorEq] at hv
 rename_i s c
 subst hv
 refine ⟨fun m=>callOk_same fun κ w xs r=>?_,rfl⟩
 obtain ⟨x,ys,rfl,r1,r2⟩:=r.inv_cons
 obtain ⟨y,zs,rfl,r3,r4⟩:=r2.inv_cons
 obtain rfl:=r4.inv_nil
 obtain rfl:=rep_str r1
 obtain rfl:=rep_int r3
 exact ⟨_,Tryz.strings_IndexByte ⟨⟨s⟩⟩ c w,.int _ _⟩
theorem trim_bare (s : List UInt8) : Lib.trimSuffix s [13] = bareM s:=by
 unfold Lib.trimSuffix Lib.hasSuffix bareM
 rcases List.eq_nil_or_concat s with rfl | ⟨q,c,rfl⟩
 ·simp
 ·rw [List.concat_eq_append]
  by_cases hc : c = 13
  ·subst hc
   have h1 : ([13] : List UInt8).isSuffixOf (q ++ [13]) = true:=List.isSuffixOf_iff_suffix.2 (List.suffix_append _ _)
   rw [if_pos h1,if_pos (by simp)]
   simp
  ·have h1 : ¬ ([13] : List UInt8).isSuffixOf (q ++ [c]) = true:=fun h=>by
    obtain ⟨t,ht⟩:=List.isSuffixOf_iff_suffix.1 h
    have:=congrArg List.getLast? ht
    simp at this
    exact hc this.symm
   rw [if_neg h1,if_neg (by simpa using hc)]
def F_line_bare : Spec
 | [.str s]=>if s.length ≤ bigT then some (.str (bareM s)) else none
 | _=>none
theorem ok_line_bare : SpecL Tryz.prog n_line_bare F_line_bare:=by
 refine go_line_bare (T:=[(n_strings_TrimSuffix,F_strings_TrimSuffix)]) (TabOk.cons ok_strings_TrimSuffix TabOk.nil) fun args v hv=>?_
 have c1 : ∀ args,tab [(n_strings_TrimSuffix,F_strings_TrimSuffix)] n_strings_TrimSuffix args = F_strings_TrimSuffix args:=fun _=>rfl
 unfold F_line_bare at hv
 split at hv <;> simp only [Option.ite_none_right_eq_some,Option.some.injEq,reduceCtorEq] at hv
 rename_i s
 obtain ⟨hl,rfl⟩:=hv
 refine ⟨rfl,rfl,rfl,?_⟩
 rw [e_line_bare,c1]
 simp only [F_strings_TrimSuffix,if_pos hl,opt_s,trim_bare]
def wrongI (s : List UInt8) : Int:=match wrongM s with | some k=>(k : Nat) | none=>-1
def F_line_wrong : Spec
 | [.str s]=>if s.length ≤ bigT then some (vI (wrongI s)) else none
 | _=>none
theorem addK {a b : Nat} (h : a + b ≤ 4611686018427387904) : binK .add (vI (a : Nat)) (vI (b : Nat)) = some (vI ((a + b : Nat) : Int)):=by
 rw [bAdd]
 congr 2
 rw [IntKind.wrap_i64]
 omega
theorem bLt (i n : Nat) : binK .lss (vI (i : Nat)) (vI (n : Nat)) = some (.bool (decide (i < n))):=by
 rw [bLss]
 congr 2
 by_cases h : i < n <;> simp [h]
theorem find_bad {s : List UInt8} {i : Nat} (h0 : ∀ c ∈ s.take i,badC c = false) : (∀ c,s[i]? = some c → badC c = true → wrongM s = some i) ∧ (s.length ≤ i → wrongM s = none):=by
 unfold wrongM
 refine ⟨fun c hc hb=>?_,fun hi=>?_⟩
 ·rw [List.findIdx?_eq_some_iff_getElem]
  obtain ⟨h1,h2⟩:=List.getElem?_eq_some_iff.1 hc
  refine ⟨h1,by rw [h2]; exact hb,fun j hj=>?_⟩
  have:=h0 (s[j]'(by omega)) (by rw [List.mem_take_iff_getElem]; exact ⟨j,by omega,rfl⟩)
  rw [this]; simp
 ·rw [List.findIdx?_eq_none_iff]
  rw [List.take_of_length_le hi] at h0
  exact h0
attribute [local irreducible] FunWpE FunWp opt
theorem wrong_wp (s : List UInt8) (hl : s.length ≤ 1000000) : FunWp tyT (tab []) 25 q_line_wrong [.tmp 2] (cB Tryz.f36) [.str s] (fun v=>v = vI (wrongI s)):=by
 refine Eq.mpr (e_line_wrong (tab _) _ (.str s)) ?_
 rw [lenS_s,opt_s]
 refine loopP_inv (fun vs=>∃ i : Nat,i ≤ s.length ∧ (∀ c ∈ s.take i,badC c = false) ∧ vs = [vI (i : Nat)]) (fun vs=>s.length - natOf (gv vs 0)) ⟨0,Nat.zero_le _,fun c hc=>by simp at hc,rfl⟩ ?_
 rintro rr _ ⟨i,hi,h0,rfl⟩ hr
 refine ⟨rfl,?_⟩
 simp only [gv_0]
 obtain ⟨hf1,hf2⟩:=find_bad h0
 rw [bLt,opt_s,iteB_bool]
 by_cases hlt : i < s.length
 ·rw [if_pos (by simpa using hlt)]
  obtain ⟨c,hc⟩ : ∃ c,s[i]? = some c:=⟨_,List.getElem?_eq_getElem hlt⟩
  rw [idxS_at hc,opt_s]
  have hnx : badC c = false → rr [vI ((i + 1 : Nat) : Int)]:=fun hb=>hr _ ⟨i + 1,by omega,fun d hd=>by
   rw [List.take_add_one,hc] at hd
   rcases List.mem_append.1 hd with hd | hd
   ·exact h0 d hd
   ·simp at hd; subst hd; exact hb,rfl⟩ (by simp only [gv_0,natOf]; omega)
  have hbad : badC c = true → vI (i : Nat) = vI (wrongI s):=fun hb=>by unfold wrongI; rw [hf1 c hc hb]
  have h9 : (c == 9) = decide ((c.toNat : Int) = 9):=by
   by_cases h : c = 9
   ·subst h; rfl
   ·have : ¬ (c.toNat : Int) = 9:=fun e=>h (by
     have e : c.toNat = 9:=by omega
     have : c = UInt8.ofNat 9:=by rw [← e]; simp
     exact this)
    simp [h,this]
  have ha:=addK (a:=i) (b:=1) (by omega)
  have ha : binK .add (vI (i : Nat)) (.int .i64 1) = some (vI ((i + 1 : Nat) : Int)):=ha
  have e5 : binK .neq (.int .u8 c.toNat) (.int .u8 9) = some (.bool (!decide ((c.toNat : Int) = 9))):=bNeq ..
  have e6 : binK .lss (.int .u8 c.toNat) (.int .u8 32) = some (.bool (decide ((c.toNat : Int) < 32))):=bLss ..
  have e9 : binK .gtr (.int .u8 c.toNat) (.int .u8 126) = some (.bool (decide ((126 : Int) < c.toNat))):=bGtr ..
  have hbv : badC c = (!decide ((c.toNat : Int) = 9) && (decide ((c.toNat : Int) < 32) || decide ((126 : Int) < c.toNat))):=by
   unfold badC
   rw [bne,h9]
   congr 2 <;> (apply decide_eq_decide.2; omega)
  rw [hbv] at hnx hbad
  rw [e5,opt_s,e6,opt_s,e9]
  generalize decide ((c.toNat : Int) = 9) = b9 at *
  generalize decide ((c.toNat : Int) < 32) = b32 at *
  generalize decide ((126 : Int) < c.toNat) = b126 at *
  cases b9 with
  | true =>
   simp only [Bool.not_true,Bool.false_and,true_implies] at hnx
   rw [Bool.not_true,gFT,opt_s,chkB_undef,opt_s,opt_s,gFT,opt_s,pBool,if_neg (by simp),opt_s,iteB_false,ha,opt_s]
   exact hnx
  | false =>
   simp only [Bool.not_false,Bool.true_and] at hnx hbad
   rw [Bool.not_false,gTT,opt_s,chkB_bool,opt_s,opt_s,gTT,pBool]
   cases b32 with
   | true =>
    rw [if_pos rfl,opt_s,pBool,if_pos rfl,opt_s,iteB_true]
    exact hbad rfl
   | false =>
    rw [if_neg (by simp),opt_s,pBool,if_pos rfl,opt_s,iteB_bool]
    cases b126 with
    | true=>rw [if_pos rfl]; exact hbad rfl
    | false=>rw [if_neg (by simp),ha,opt_s]; exact hnx rfl
 ·rw [if_neg (by simpa using hlt)]
  unfold wrongI
  rw [hf2 (by omega)]
theorem Fwrong {args : List V} {v : V} (hv : F_line_wrong args = some v) : ∃ s,args = [.str s] ∧ s.length ≤ 1000000 ∧ v = vI (wrongI s):=by
 unfold F_line_wrong at hv
 split at hv
 ·rename_i s
  rw [Option.ite_none_right_eq_some] at hv
  exact ⟨s,rfl,hv.1,(Option.some.inj hv.2).symm⟩
 ·cases hv
theorem ok_line_wrong : SpecL Tryz.prog n_line_wrong F_line_wrong:=by
 refine go_line_wrong (T:=[]) TabOk.nil fun args v hv=>?_
 obtain ⟨s,rfl,hl,rfl⟩:=Fwrong hv
 exact ⟨rfl,by simp [canos,V.cano],by simp [V.cano],wrong_wp s hl⟩
end Go.Fbs
