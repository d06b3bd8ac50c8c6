import Derived.Test.YtpdnpfdbjoaemaaGreatDoorQL
import Derived.Shelf.Strings.SlTrimAscii
import Derived.Lib.AtoiErrMem
set_option linter.unusedSimpArgs false
set_option linter.unusedVariables false
set_option linter.unusedSectionVars false
set_option maxRecDepth 100000
namespace Go.Fbs
open Go.Proofs
def F_atom_first : Spec
 | [.int .u8 c]=>some (.bool (alnB c))
 | _=>none
theorem ok_atom_first : SpecL Tryz.prog n_atom_first F_atom_first:=by
 refine go_atom_first (T:=[]) (TabOk.nil) fun args v hv=>?_
 unfold F_atom_first at hv
 split at hv <;> (try simp only [Option.ite_none_right_eq_some,Option.some.injEq,reduceCtorEq] at hv)
 rename_i c
 subst hv
 refine ⟨rfl,rfl,rfl,?_⟩
 rw [e_atom_first]
 by_cases h1 : 97 ≤ c <;> by_cases h2 : c ≤ 122 <;> by_cases h3 : 48 ≤ c <;> by_cases h4 : c ≤ 57 <;> simp [sS,if_true,if_false,reduceCtorEq,alnB,h1,h2,h3,h4]
def F_entailref1_alnum : Spec
 | [.int .u8 c]=>some (.bool (alnB c))
 | _=>none
theorem ok_entailref1_alnum : SpecL Tryz.prog n_entailref1_alnum F_entailref1_alnum:=by
 refine go_entailref1_alnum (T:=[]) (TabOk.nil) fun args v hv=>?_
 unfold F_entailref1_alnum at hv
 split at hv <;> (try simp only [Option.ite_none_right_eq_some,Option.some.injEq,reduceCtorEq] at hv)
 rename_i c
 subst hv
 refine ⟨rfl,rfl,rfl,?_⟩
 rw [e_entailref1_alnum]
 by_cases h1 : 97 ≤ c <;> by_cases h2 : c ≤ 122 <;> by_cases h3 : 48 ≤ c <;> by_cases h4 : c ≤ 57 <;> simp [sS,if_true,if_false,reduceCtorEq,alnB,h1,h2,h3,h4]
def F_atom_plain : Spec
 | [.int .u8 c]=>some (.bool (nameB c))
 | _=>none
theorem ok_atom_plain : SpecL Tryz.prog n_atom_plain F_atom_plain:=by
 refine go_atom_plain (T:=[(n_atom_first,F_atom_first)]) (TabOk.cons ok_atom_first TabOk.nil) fun args v hv=>?_
 have c_atom_first : ∀ args,tab [(n_atom_first,F_atom_first)] n_atom_first args = F_atom_first args:=fun _=>rfl
 unfold F_atom_plain at hv
 split at hv <;> (try simp only [Option.ite_none_right_eq_some,Option.some.injEq,reduceCtorEq] at hv)
 rename_i c
 subst hv
 refine ⟨rfl,rfl,rfl,?_⟩
 rw [e_atom_plain]
 cases h0 : alnB c <;> by_cases h1 : c = 95 <;> by_cases h2 : c = 45 <;> by_cases h3 : c = 46 <;> simp [sS,if_true,if_false,reduceCtorEq,c_atom_first,F_atom_first,nameB,h0,h1,h2,h3]
theorem all_take {p : UInt8 → Bool} {l : List UInt8} {k : Nat} {c : UInt8} (h : l[k]? = some c) (hk : (l.take k).all p = true) : (l.take (k + 1)).all p = p c:=by
 rw [List.take_add_one,h,List.all_append,hk]; simp
theorem all_not {p : UInt8 → Bool} {l : List UInt8} {k : Nat} {c : UInt8} (h : l[k]? = some c) (hc : p c = false) : l.all p = false:=by
 cases hh : l.all p
 ·rfl
 ·rw [List.all_eq_true.1 hh c (List.mem_of_getElem? h)] at hc; simp at hc
theorem all_end {p : UInt8 → Bool} {l : List UInt8} {k : Nat} (h : l.length ≤ k) (hk : (l.take k).all p = true) : l.all p = true:=by
 rwa [List.take_of_length_le h] at hk
def F_atom_Name : Spec
 | [.str l]=>if l.length ≤ bigT then some (.bool (nameD l)) else none
 | _=>none
theorem ok_atom_Name : SpecL Tryz.prog n_atom_Name F_atom_Name:=by
 refine go_atom_Name (T:=[(n_atom_first,F_atom_first),(n_atom_plain,F_atom_plain)]) (TabOk.cons ok_atom_first (TabOk.cons ok_atom_plain TabOk.nil)) fun args v hv=>?_
 have c_atom_first : ∀ args,tab [(n_atom_first,F_atom_first),(n_atom_plain,F_atom_plain)] n_atom_first args = F_atom_first args:=fun _=>rfl
 have c_atom_plain : ∀ args,tab [(n_atom_first,F_atom_first),(n_atom_plain,F_atom_plain)] n_atom_plain args = F_atom_plain args:=fun _=>rfl
 unfold F_atom_Name at hv
 split at hv <;> (try simp only [Option.ite_none_right_eq_some,Option.some.injEq,reduceCtorEq] at hv)
 rename_i l
 obtain ⟨hl,rfl⟩:=hv
 unfold bigT at hl
 refine ⟨rfl,rfl,rfl,?_⟩
 rw [e_atom_Name]
 cases l with
 | nil=>simp [sS,if_true,if_false,reduceCtorEq,nameD]
 | cons c t =>
  have e0 : ((c :: t : List UInt8) == []) = false:=rfl
  have i0 : indexS (.str (c :: t)) (.int .i64 0) = some (.int .u8 c.toNat):=idxS_at (k:=0) rfl .i64
  generalize hll : c :: t = l at *
  have hl1 : 1 ≤ l.length:=by rw [← hll]; simp
  have hg : l.getD 0 0 = c:=by rw [← hll]; rfl
  simp only [sS,if_true,if_false,reduceCtorEq,e0]
  by_cases h30 : l.length ≤ 30
  ·have h30' : ¬ (30 : Int) < (l.length : Int):=by omega
   simp only [sS,if_true,if_false,reduceCtorEq,h30',decide_false,i0,c_atom_first,F_atom_first]
   cases ha : alnB c.toNat
   ·simp only [sS,if_true,if_false,reduceCtorEq,nameD,hg,ha]
   ·simp only [sS,if_true,if_false,reduceCtorEq]
    refine loopP_inv (fun vs=>∃ k : Nat,vs = [vI k] ∧ k ≤ l.length ∧ (l.take k).all (fun c=>nameB c.toNat) = true) (fun vs=>l.length - natOf (gv vs 0)) ⟨0,rfl,Nat.zero_le _,rfl⟩ ?_
    rintro r _ ⟨k,rfl,hk,hn⟩ hr
    refine ⟨rfl,?_⟩
    simp only [sS,if_true,if_false,reduceCtorEq]
    by_cases hlt : k < l.length
    ·have hlt' : (k : Int) < (l.length : Int):=by omega
     obtain ⟨d,hd⟩ : ∃ d,l[k]? = some d:=⟨l[k],List.getElem?_eq_getElem hlt⟩
     simp only [hlt',decide_true,sS,if_true,if_false,reduceCtorEq,idxS_at hd,c_atom_plain,F_atom_plain]
     have h2:=all_take (p:=fun c=>nameB c.toNat) hd hn
     cases hp : nameB d.toNat
     ·simp only [sS,if_true,if_false,reduceCtorEq,nameD,all_not (p:=fun c=>nameB c.toNat) hd hp]
     ·simp only [sS,if_true,if_false,reduceCtorEq]
      rw [wrap_in (by omega) (by omega)]
      refine hr _ ⟨k + 1,by simp,hlt,by rw [h2]; exact hp⟩ ?_
      simp [gv,natOf]; omega
    ·have hlt' : ¬ (k : Int) < (l.length : Int):=by omega
     simp only [hlt',decide_false,sS,if_true,if_false,reduceCtorEq,nameD,hg,ha,hl1,h30,decide_true,all_end (p:=fun c=>nameB c.toNat) (by omega) hn]
  ·have h30' : (30 : Int) < (l.length : Int):=by omega
   simp [sS,if_true,if_false,reduceCtorEq,h30',nameD,h30]
def F_entailref1_Name : Spec
 | [.str l]=>if l.length ≤ bigT then some (.bool (nameD l)) else none
 | _=>none
theorem ok_entailref1_Name : SpecL Tryz.prog n_entailref1_Name F_entailref1_Name:=by
 refine go_entailref1_Name (T:=[(n_entailref1_alnum,F_entailref1_alnum)]) (TabOk.cons ok_entailref1_alnum TabOk.nil) fun args v hv=>?_
 have c_entailref1_alnum : ∀ args,tab [(n_entailref1_alnum,F_entailref1_alnum)] n_entailref1_alnum args = F_entailref1_alnum args:=fun _=>rfl
 unfold F_entailref1_Name at hv
 split at hv <;> (try simp only [Option.ite_none_right_eq_some,Option.some.injEq,reduceCtorEq] at hv)
 rename_i l
 obtain ⟨hl,rfl⟩:=hv
 unfold bigT at hl
 refine ⟨rfl,rfl,rfl,?_⟩
 rw [e_entailref1_Name]
 cases l with
 | nil=>simp [sS,if_true,if_false,reduceCtorEq,nameD]
 | cons c t =>
  have i0 : indexS (.str (c :: t)) (.int .i64 0) = some (.int .u8 c.toNat):=idxS_at (k:=0) rfl .i64
  generalize hll : c :: t = l at *
  have hl1 : 1 ≤ l.length:=by rw [← hll]; simp
  have hl1' : ¬ (l.length : Int) < 1:=by omega
  have hg : l.getD 0 0 = c:=by rw [← hll]; rfl
  simp only [sS,if_true,if_false,reduceCtorEq,hl1',decide_false]
  by_cases h30 : l.length ≤ 30
  ·have h30' : ¬ (30 : Int) < (l.length : Int):=by omega
   simp only [sS,if_true,if_false,reduceCtorEq,h30',decide_false,i0,c_entailref1_alnum,F_entailref1_alnum]
   cases ha : alnB c.toNat
   ·simp only [sS,if_true,if_false,reduceCtorEq,nameD,hg,ha]
   ·simp only [sS,if_true,if_false,reduceCtorEq]
    refine loopP_inv (fun vs=>∃ k : Nat,vs = [vI k] ∧ k ≤ l.length ∧ (l.take k).all (fun c=>nameB c.toNat) = true) (fun vs=>l.length - natOf (gv vs 0)) ⟨0,rfl,Nat.zero_le _,rfl⟩ ?_
    rintro r _ ⟨k,rfl,hk,hn⟩ hr
    refine ⟨rfl,?_⟩
    simp only [sS,if_true,if_false,reduceCtorEq]
    by_cases hlt : k < l.length
    ·have hlt' : (k : Int) < (l.length : Int):=by omega
     obtain ⟨d,hd⟩ : ∃ d,l[k]? = some d:=⟨l[k],List.getElem?_eq_getElem hlt⟩
     simp only [hlt',decide_true,sS,if_true,if_false,reduceCtorEq,idxS_at hd,c_entailref1_alnum,F_entailref1_alnum]
     have h2:=all_take (p:=fun c=>nameB c.toNat) hd hn
     have step : nameB d.toNat = true → r [vI (k + 1 : Nat)]:=fun hp=>hr _ ⟨k + 1,rfl,hlt,by rw [h2]; exact hp⟩ (by simp [gv,natOf]; omega)
     have stop_ : nameB d.toNat = false → nameD l = false:=fun hp=>by simp only [nameD,all_not (p:=fun c=>nameB c.toNat) hd hp,Bool.and_false]
     have hw : IntKind.i64.wrap ((k : Int) + 1) = ((k + 1 : Nat) : Int):=by rw [wrap_in (by omega) (by omega)]; omega
     simp only [nameB] at step stop_
     cases h0 : alnB d.toNat <;> by_cases h1 : (d.toNat : Int) = 95 <;> by_cases h3 : (d.toNat : Int) = 45 <;> by_cases h4 : (d.toNat : Int) = 46 <;> simp [h0,h1,h3,h4] at step stop_ <;> simp [sS,if_true,if_false,reduceCtorEq,h1,h3,h4,hw,stop_,step]
    ·have hlt' : ¬ (k : Int) < (l.length : Int):=by omega
     simp only [hlt',decide_false,sS,if_true,if_false,reduceCtorEq,nameD,hg,ha,hl1,h30,decide_true,all_end (p:=fun c=>nameB c.toNat) (by omega) hn]
  ·have h30' : (30 : Int) < (l.length : Int):=by omega
   simp [sS,if_true,if_false,reduceCtorEq,h30',nameD,h30]
def digS : List UInt8:=[48,49,50,51,52,53,54,55,56,57]
theorem digS_dig (c : UInt8) : digS.contains c = digC c:=by
 rw [Bool.eq_iff_iff]
 constructor
 ·intro h
  have h:=List.contains_iff_mem.1 h
  simp only [digS,List.mem_cons,List.not_mem_nil,or_false] at h
  rcases h with rfl | rfl | rfl | rfl | rfl | rfl | rfl | rfl | rfl | rfl <;> decide
 ·intro h
  simp only [digC,Bool.and_eq_true,decide_eq_true_eq] at h
  apply List.contains_iff_mem.2
  have hc : c = UInt8.ofNat c.toNat:=by simp
  have : c.toNat = 48 ∨ c.toNat = 49 ∨ c.toNat = 50 ∨ c.toNat = 51 ∨ c.toNat = 52 ∨ c.toNat = 53 ∨ c.toNat = 54 ∨ c.toNat = 55 ∨ c.toNat = 56 ∨ c.toNat = 57:=by omega
  rcases this with e | e | e | e | e | e | e | e | e | e <;> (rw [e] at hc; subst hc; decide)
theorem dw_nil {p : UInt8 → Bool} : ∀ {l : List UInt8},l.dropWhile p = [] ↔ ∀ x ∈ l,p x = true
 | []=>by simp
 | c :: l=>by
  rw [List.dropWhile_cons]
  split
  ·rename_i h
   rw [dw_nil]
   exact ⟨fun g x hx=>(List.mem_cons.1 hx).elim (fun e=>e ▸ h) (g x),fun g x hx=>g x (List.mem_cons_of_mem _ hx)⟩
  ·rename_i h
   exact ⟨fun g=>(by cases g),fun g=>absurd (g c List.mem_cons_self) h⟩
theorem trim_nil (l : List UInt8) : (Lib.trimS l digS == []) = l.all digC:=by
 have hp : ∀ c,digS.contains c = digC c:=digS_dig
 rw [Bool.eq_iff_iff,beq_iff_eq,List.all_eq_true]
 unfold Lib.trimS Lib.trimLeftS Lib.trimRightS
 rw [dw_nil]
 constructor
 ·intro h x hx
  cases hd : l.reverse.dropWhile (digS.contains ·) with
  | nil =>
   rw [dw_nil] at hd
   rw [← hp]; exact hd x (by simpa using hx)
  | cons y r =>
   exfalso
   have h1:=h y (by rw [hd]; simp)
   have h2:=List.head?_dropWhile_not (digS.contains ·) l.reverse
   rw [hd] at h2
   simp only [List.head?_cons] at h2
   rw [h1] at h2
   simp at h2
 ·intro h x hx
  have hn : l.reverse.dropWhile (digS.contains ·) = []:=by
   rw [dw_nil]
   intro y hy
   rw [hp]; exact h y (by simpa using hy)
  rw [hn] at hx
  simp at hx
def F_strings_Trim : Spec
 | [.str s,.str p]=>if s.length ≤ bigT ∧ p = digS then some (.str (Lib.trimS s digS)) else none
 | _=>none
theorem ok_strings_Trim : SpecL Tryz.prog n_strings_Trim F_strings_Trim:=by
 refine ⟨⟨_,_,Tryz.func45,rfl,by kernel_rfl⟩,fun args v hv=>?_⟩
 unfold F_strings_Trim at hv
 split at hv <;> simp only [Option.ite_none_right_eq_some,Option.some.injEq,reduceCtorEq] at hv
 rename_i s p
 obtain ⟨⟨hl,rfl⟩,rfl⟩:=hv
 refine ⟨fun m=>callOk_below fun κ w xs r=>⟨.string ⟨⟨Lib.trimS s digS⟩⟩,by rw [reps_str2 r]; exact Any.strings_Trim_laid Tryz.lays160 (by kernel_rfl) ⟨⟨s⟩⟩ ⟨⟨digS⟩⟩ w (by show s.length ≤ _; unfold bigT at hl; omega) (by decide) (ascii_of_all (by decide)),fun h'=>.str _⟩,rfl⟩
def F_strconv_Atoi : Spec
 | [.str s]=>if s.length ≤ 18 then (match Lib.atoi s with | some n=>some (.tup [vI n,.any]) | none=>none) else none
 | _=>none
theorem ok_strconv_Atoi : SpecL Tryz.prog n_strconv_Atoi F_strconv_Atoi:=by
 refine ⟨⟨_,_,Tryz.func46,rfl,by kernel_rfl⟩,fun args v hv=>?_⟩
 unfold F_strconv_Atoi at hv
 split at hv <;> simp only [Option.ite_none_right_eq_some,Option.some.injEq,reduceCtorEq] at hv
 rename_i s
 obtain ⟨hl,hv⟩:=hv
 split at hv <;> simp only [Option.some.injEq,reduceCtorEq] at hv
 rename_i n hn
 subst hv
 refine ⟨fun m=>callOk_below fun κ w xs r=>⟨.tuple #[.int .i64 n,.nilIface],by rw [reps_str1 r]; exact (Tryz.strconv_Atoi ⟨⟨s⟩⟩ n hl hn w).mono (by rintro e w' ⟨rfl,t,rfl⟩; exact ⟨rfl,Lib.bytesWorld_below _ _ _⟩),fun h'=>?_⟩,rfl⟩
 refine .tup [vI n,.any] [.int .i64 n,.nilIface] rfl fun i c x h1 h2=>?_
 match i,h1,h2 with
 | 0,h1,h2=>cases h1; cases h2; exact .int _ _
 | 1,h1,h2=>cases h1; cases h2; exact .any _
theorem tab_pow {w : World} (h : Tab0 w.heap) : Lib.TabIs Tryz.prog w "internal/strconv.uint64pow10" .u64 Lib.pow10Tab := by
 obtain ⟨t,fr,h2⟩:=h _ (List.mem_singleton.2 rfl)
 unfold Lib.TabIs World.var?
 rw [show Tryz.prog.globalNamed "internal/strconv.uint64pow10" = some 5 from by kernel_rfl]
 simp only [Option.bind_some]
 rw [h2]
 simp [Lib.pow10Tab,List.map_map,Function.comp_def]
def F_strconv_Itoa : Spec
 | [.int .i64 n]=>if 0 ≤ n ∧ n < 1000 then some (.str (itoM n)) else none
 | _=>none
theorem dec_one {n : Nat} (h : n < 10) : Lib.decDigits n = [UInt8.ofNat (48 + n)]:=by
 unfold Lib.decDigits
 rw [dif_pos h]
theorem dec_more {n : Nat} (h : ¬ n < 10) : Lib.decDigits n = Lib.decDigits (n / 10) ++ [UInt8.ofNat (48 + n % 10)]:=by
 conv=>lhs; unfold Lib.decDigits
 rw [dif_neg h]
theorem dec_ito {n : Nat} (h : n < 1000) : Lib.decDigits n = itoM n:=by
 unfold itoM
 by_cases h1 : n < 10
 ·rw [dec_one h1,if_pos (by omega)]
  rfl
 ·by_cases h2 : n < 100
  ·rw [dec_more h1,dec_one (by omega),if_neg (by omega),if_pos (by omega)]
   rfl
  ·rw [dec_more h1,dec_more (by omega),dec_one (by omega),if_neg (by omega),if_neg (by omega)]
   simp [Nat.div_div_eq_div_mul]
theorem ok_strconv_Itoa : SpecL Tryz.prog n_strconv_Itoa F_strconv_Itoa:=by
 refine ⟨⟨_,_,Tryz.func42,rfl,by kernel_rfl⟩,fun args v hv=>?_⟩
 unfold F_strconv_Itoa at hv
 split at hv <;> simp only [Option.ite_none_right_eq_some,Option.some.injEq,reduceCtorEq] at hv
 rename_i n
 obtain ⟨⟨h0,h1⟩,rfl⟩:=hv
 obtain ⟨k,rfl⟩ : ∃ k : Nat,n = k:=⟨n.toNat,by omega⟩
 refine ⟨fun m κ w xs km r=>?_,rfl⟩
 obtain ⟨x,ys,rfl,r1,r2⟩:=r.inv_cons
 obtain rfl:=r2.inv_nil
 obtain rfl:=rep_int r1
 refine (Tryz.strconv_Itoa k (by omega) (by omega) w (tab_pow km.1.tbs.tab0)).mono fun e w' ⟨he,q,os,hw⟩=>?_
 subst hw
 have hold : ∀ b,b < w.heap.size → (Go.Sort.grow (w.drewN q) os).heap[b]? = w.heap[b]?:=fun b hb=>by
  show (w.heap ++ os)[b]? = w.heap[b]?
  rw [Array.getElem?_append_left hb]
 have hsz : w.heap.size ≤ (Go.Sort.grow (w.drewN q) os).heap.size:=by
  show w.heap.size ≤ (w.heap ++ os).size
  simp
 refine ⟨.string ⟨⟨itoM k⟩⟩,κ,?_,⟨le_below hsz hold,mem_below km hsz hold,Nat.le_refl _,fun _ _ h=>h,rfl,rfl,hsz⟩,.str _⟩
 rw [he,Lib.itoa_nonneg,dec_ito (by omega)]
def numV (s : List UInt8) : V:=match numM s with | some n=>.tup [vI n,.bool true] | none=>.tup [vI 0,.bool false]
def F_role_number : Spec
 | [.str s]=>if s.length ≤ bigT then some (numV s) else none
 | _=>none
theorem digC_48 {c : UInt8} (h : digC c = true) : c ≠ 45 ∧ c ≠ 43 ∧ Lib.digitVal c = some (c.toNat - 48) ∧ 48 ≤ c.toNat ∧ c.toNat ≤ 57:=by
 have h':=h
 simp only [digC,Bool.and_eq_true,decide_eq_true_eq] at h
 refine ⟨?_,?_,?_,h.1,h.2⟩
 ·rintro rfl; revert h'; decide
 ·rintro rfl; revert h'; decide
 ·unfold Lib.digitVal; rw [if_pos h]
theorem atoi_1 {c : UInt8} (h : digC c = true) : Lib.atoi [c] = some ((c.toNat : Int) - 48):=by
 obtain ⟨h1,h2,h3,h4,h5⟩:=digC_48 h
 simp only [Lib.atoi,beq_iff_eq,h1,h2,if_false,Lib.decNat,List.isEmpty_cons,Bool.false_eq_true,Lib.decFrom,h3,Option.map_some]
 congr 1; omega
theorem atoi_2 {c d : UInt8} (h : digC c = true) (g : digC d = true) : Lib.atoi [c,d] = some (((c.toNat : Int) - 48) * 10 + ((d.toNat : Int) - 48)):=by
 obtain ⟨h1,h2,h3,h4,h5⟩:=digC_48 h
 obtain ⟨_,_,g3,g4,g5⟩:=digC_48 g
 simp only [Lib.atoi,beq_iff_eq,h1,h2,if_false,Lib.decNat,List.isEmpty_cons,Bool.false_eq_true,Lib.decFrom,h3,g3,Option.map_some]
 congr 1; omega
theorem eq48 {c : UInt8} : (c.toNat : Int) = 48 ↔ c = 48:=by
 constructor
 ·intro e
  have : c = UInt8.ofNat c.toNat:=by simp
  rw [this,show c.toNat = 48 by omega]; rfl
 ·rintro rfl; rfl
theorem ok_role_number : SpecL Tryz.prog n_role_number F_role_number:=by
 refine go_role_number (T:=[(n_strings_Trim,F_strings_Trim),(n_strconv_Atoi,F_strconv_Atoi)]) (TabOk.cons ok_strings_Trim (TabOk.cons ok_strconv_Atoi TabOk.nil)) fun args v hv=>?_
 have c_strings_Trim : ∀ args,tab [(n_strings_Trim,F_strings_Trim),(n_strconv_Atoi,F_strconv_Atoi)] n_strings_Trim args = F_strings_Trim args:=fun _=>rfl
 have c_strconv_Atoi : ∀ args,tab [(n_strings_Trim,F_strings_Trim),(n_strconv_Atoi,F_strconv_Atoi)] n_strconv_Atoi args = F_strconv_Atoi args:=fun _=>rfl
 unfold F_role_number at hv
 split at hv <;> (try simp only [Option.ite_none_right_eq_some,Option.some.injEq,reduceCtorEq] at hv)
 rename_i s
 obtain ⟨hl,rfl⟩:=hv
 refine ⟨rfl,rfl,by unfold numV; split <;> rfl,?_⟩
 rw [e_role_number]
 have ht : ∀ r : List UInt8,r.length ≤ bigT → F_strings_Trim [.str r,.str [48,49,50,51,52,53,54,55,56,57]] = some (.str (Lib.trimS r digS)):=fun r hr=>if_pos ⟨hr,rfl⟩
 match s,hl with
 | [],_=>simp [sS,if_true,if_false,reduceCtorEq,numV,numM]
 | [c],hl =>
  have i0 : indexS (.str [c]) (.int .i64 0) = some (.int .u8 c.toNat):=idxS_at (k:=0) rfl .i64
  have tn:=trim_nil [c]
  simp only [List.all_cons,List.all_nil,Bool.and_true] at tn
  simp only [sS,if_true,if_false,reduceCtorEq,List.length_cons,List.length_nil,c_strings_Trim,ht _ hl,i0,tn,c_strconv_Atoi,F_strconv_Atoi]
  by_cases h0 : (c.toNat : Int) = 48
  ·simp [sS,if_true,if_false,reduceCtorEq,h0,numV,numM,eq48.1 h0]
  ·have h48 : ¬ c = 48:=fun e=>h0 (eq48.2 e)
   cases hd : digC c
   ·simp [sS,if_true,if_false,reduceCtorEq,h0,h48,tn,numV,numM,hd]
   ·simp [sS,if_true,if_false,reduceCtorEq,h0,h48,tn,numV,numM,hd,atoi_1 hd]
 | [c,d],hl =>
  have i0 : indexS (.str [c,d]) (.int .i64 0) = some (.int .u8 c.toNat):=idxS_at (l:=[c,d]) (k:=0) rfl .i64
  have tn:=trim_nil [c,d]
  simp only [List.all_cons,List.all_nil,Bool.and_true] at tn
  simp only [sS,if_true,if_false,reduceCtorEq,List.length_cons,List.length_nil,c_strings_Trim,ht _ hl,i0,tn,c_strconv_Atoi,F_strconv_Atoi]
  by_cases h0 : (c.toNat : Int) = 48
  ·simp [sS,if_true,if_false,reduceCtorEq,h0,numV,numM,eq48.1 h0]
  ·have h48 : ¬ c = 48:=fun e=>h0 (eq48.2 e)
   cases hd : digC c
   ·simp [sS,if_true,if_false,reduceCtorEq,h0,h48,tn,numV,numM,hd]
   ·cases he : digC d
    ·simp [sS,if_true,if_false,reduceCtorEq,h0,h48,tn,numV,numM,hd,he]
    ·simp [sS,if_true,if_false,reduceCtorEq,h0,h48,tn,numV,numM,hd,he,atoi_2 hd he]
 | c :: d :: e :: r,hl =>
  have h3 : (2 : Int) < (((c :: d :: e :: r : List UInt8).length : Nat) : Int):=by simp only [List.length_cons]; omega
  have h4 : ¬ (((c :: d :: e :: r : List UInt8).length : Nat) : Int) < 1:=by simp only [List.length_cons]; omega
  simp only [sS,if_true,if_false,reduceCtorEq,h3,h4,decide_true,decide_false]
  simp [sS,if_true,if_false,reduceCtorEq,numV,numM]
end Go.Fbs
