import Derived.Test.YtpdnpfdbjoaemaaGreatDoorQW
import Derived.Test.YtpdnpfdbjoaemaaGreatDoorQT
set_option linter.unusedSimpArgs false
set_option linter.unusedVariables false
set_option linter.unusedSectionVars false
set_option maxRecDepth 100000
namespace Go.Fbs
open Go.Proofs
attribute [local irreducible] FunWpE FunWp opt
def namesD : List (List UInt8):=[[97],[98],[99],[100],[97,98],[98,45,49],[120,46,121],[48]]
theorem getD_at {ls : List (List UInt8)} {k : Nat} (h : k < ls.length) : ls[k]? = some (ls.getD k []):=by
 rw [List.getD_eq_getElem?_getD,List.getElem?_eq_getElem h]; rfl
theorem modlt {n : Int} {m : Nat} (hm : 0 < m) : (n % (m : Int)).toNat < m:=by
 have h1:=Int.emod_nonneg n (show (m : Int) ≠ 0 by omega)
 have h2:=Int.emod_lt_of_pos n (show (0 : Int) < m by omega)
 omega
theorem andM (a : Int) {j : Nat} (hj : j < 63) {c : Int} (hc : c = ((2 ^ j - 1 : Nat) : Int)) {m : Nat} (hm : m = 2 ^ j) : binK .and (.int .i64 a) (.int .i64 c) = some (vI ((a % (m : Int)).toNat : Nat)):=by
 subst hc hm
 rw [bAndMask hj,Int.toNat_of_nonneg (Int.emod_nonneg a (by have:=Nat.two_pow_pos j; omega))]
theorem shrM {a : Int} {b : Nat} (hb : b ≤ 64) : binK .shr (.int .i64 a) (.int .u64 b) = some (.int .i64 (a.fdiv (2 ^ b))):=by
 have e : min (b : Int).toNat IntKind.i64.bits = b:=by
  show min (b : Int).toNat 64 = b
  rw [Int.toNat_natCast]; omega
 have e2 : min b IntKind.i64.bits = b:=by rw [Int.toNat_natCast] at e; exact e
 simp [binK,shiftBin,e2]
theorem remM (a b : Nat) (hb : 0 < b) : binK .rem (vI (a : Nat)) (vI (b : Nat)) = some (vI ((a % b : Nat) : Nat)):=by
 have h : ¬ (b : Int) = 0:=by omega
 simp only [binK,intBin,if_true,vI]
 rw [if_neg h]
 rw [Int.ofNat_tmod]
theorem shr8 (a : Int) : binK .shr (.int .i64 a) (.int .u64 8) = some (.int .i64 (a.fdiv 256)):=shrM (b:=8) (by omega)
theorem shr11 (a : Int) : binK .shr (.int .i64 a) (.int .u64 11) = some (.int .i64 (a.fdiv 2048)):=shrM (b:=11) (by omega)
theorem shr16 (a : Int) : binK .shr (.int .i64 a) (.int .u64 16) = some (.int .i64 (a.fdiv 65536)):=shrM (b:=16) (by omega)
theorem shr18 (a : Int) : binK .shr (.int .i64 a) (.int .u64 18) = some (.int .i64 (a.fdiv 262144)):=shrM (b:=18) (by omega)
theorem shr20 (a : Int) : binK .shr (.int .i64 a) (.int .u64 20) = some (.int .i64 (a.fdiv 1048576)):=shrM (b:=20) (by omega)
theorem shr23 (a : Int) : binK .shr (.int .i64 a) (.int .u64 23) = some (.int .i64 (a.fdiv 8388608)):=shrM (b:=23) (by omega)
theorem shr24 (a : Int) : binK .shr (.int .i64 a) (.int .u64 24) = some (.int .i64 (a.fdiv 16777216)):=shrM (b:=24) (by omega)
theorem and1 (a : Int) : binK .and (.int .i64 a) (.int .i64 1) = some (vI ((a % ((2 : Nat) : Int)).toNat : Nat)):=andM a (j:=1) (by omega) rfl rfl
theorem and3 (a : Int) : binK .and (.int .i64 a) (.int .i64 3) = some (vI ((a % ((4 : Nat) : Int)).toNat : Nat)):=andM a (j:=2) (by omega) rfl rfl
theorem and7 (a : Int) : binK .and (.int .i64 a) (.int .i64 7) = some (vI ((a % ((8 : Nat) : Int)).toNat : Nat)):=andM a (j:=3) (by omega) rfl rfl
theorem and255 (a : Int) : binK .and (.int .i64 a) (.int .i64 255) = some (vI ((a % ((256 : Nat) : Int)).toNat : Nat)):=andM a (j:=8) (by omega) rfl rfl
def nmT (n : Int) : List UInt8:=namesD.getD (n % ((8 : Nat) : Int)).toNat []
def F_entaillaw1_Nm : Spec
 | [.int .i64 n]=>some (.str (nmT n))
 | _=>none
theorem nm_at (n : Int) : namesD[(n % ((8 : Nat) : Int)).toNat]? = some (nmT n):=getD_at (modlt (by omega))
theorem ok_entaillaw1_Nm : SpecL Tryz.prog n_entaillaw1_Nm F_entaillaw1_Nm:=by
 refine go_entaillaw1_Nm (T:=[]) TabOk.nil fun args v hv=>?_
 unfold F_entaillaw1_Nm at hv
 split at hv <;> simp only [Option.some.injEq,reduceCtorEq] at hv
 rename_i n
 subst hv
 refine ⟨rfl,rfl,rfl,?_⟩
 refine Eq.mpr (e_entaillaw1_Nm (tab _) _ (.int .i64 n)) ?_
 have l0 : litK 1 [(.str [97]),(.str [98]),(.str [99]),(.str [100]),(.str [97,98]),(.str [98,45,49]),(.str [120,46,121]),(.str [48])] = some (strsV namesD):=lit_s (n:=1) (by simp) rfl
 rw [l0,opt_s,and7,opt_s,strAt (nm_at n),opt_s]
def uvwT : List (List UInt8):=[[117],[118],[119]]
def rstqT : List (List UInt8):=[[114],[115],[116],[113]]
def rdT : List (List UInt8):=[[114,101,97,100],[100,111]]
def n23T : List (List UInt8):=[[50],[51]]
def nearT : List (List UInt8):=[[117,115,101,114],[114,111,108,101,32,65],[115,115,100,32,97,32,49,32,114,32,115],[100,115,100,32,97,32,48,50,32,114,32,115],[103,114,97,110,116,32,114],[105,110,104,101,114,105,116,32,114,32,115,32,116],[117,115,101,114,32,97,32,98],[115,101,115,115,105,111,110,32,97]]
def lineK (k : Nat) (u v w o rd nn r q : List UInt8) : List UInt8 :=
 if k < 3 then [97,115,115,105,103,110,32] ++ u ++ [32] ++ v
 else if k < 6 then [105,110,104,101,114,105,116,32] ++ v ++ [32] ++ w
 else if k < 10 then [103,114,97,110,116,32] ++ v ++ [32] ++ rd ++ [32] ++ o
 else if k = 10 then [115,115,100,32] ++ o ++ [32] ++ nn ++ [32] ++ v ++ [32] ++ w ++ [32] ++ r
 else if k < 13 then [100,115,100,32] ++ o ++ [32,50,32] ++ v ++ [32] ++ w
 else if k < 16 then [115,101,115,115,105,111,110,32] ++ o ++ [32] ++ u ++ [32] ++ v
 else if k = 16 then [115,101,115,115,105,111,110,32] ++ o ++ [32] ++ u ++ [32] ++ v ++ [32] ++ w
 else if k = 17 then [117,115,101,114,32] ++ o
 else if k = 18 then [114,111,108,101,32] ++ o
 else if k = 19 then q
 else if k = 20 then [35,32,97,32,110,111,116,101]
 else [97,115,115,105,103,110,32] ++ u ++ [32] ++ w
def bitT (l : List (List UInt8)) (n : Int) (d : Int) (m : Nat) : List UInt8:=l.getD (n.fdiv d % (m : Int)).toNat []
theorem bit_at {l : List (List UInt8)} {m : Nat} (n d : Int) (hm : 0 < m) (hl : m ≤ l.length) : l[(n.fdiv d % (m : Int)).toNat]? = some (bitT l n d m):=getD_at (Nat.lt_of_lt_of_le (modlt hm) hl)
def uT (n : Int) : List UInt8:=uvwT.getD ((n.fdiv 256 % ((256 : Nat) : Int)).toNat % 3) []
theorem u_at (n : Int) : uvwT[(n.fdiv 256 % ((256 : Nat) : Int)).toNat % 3]? = some (uT n):=getD_at (Nat.mod_lt _ (by omega))
def kN (n : Int) : Nat:=(n % ((256 : Nat) : Int)).toNat % 24
def lineX (n : Int) : List UInt8:=lineK (kN n) (uT n) (bitT rstqT n 65536 4) (bitT rstqT n 262144 4) (nmT (n.fdiv 1048576)) (bitT rdT n 8388608 2) (bitT n23T n 8388608 2) (bitT rstqT n 16777216 4) (bitT nearT n 256 8)
theorem at_len {ls : List (List UInt8)} {k : Nat} {x : List UInt8} {b : Nat} (h : ls[k]? = some x) (hb : ls.all (fun x=>decide (x.length ≤ b)) = true) : x.length ≤ b:=by
 have:=List.all_eq_true.1 hb x (List.mem_of_getElem? h)
 simpa using this
theorem ite_len {c : Prop} [Decidable c] {a b : List UInt8} {n : Nat} (ha : a.length ≤ n) (hb : b.length ≤ n) : (if c then a else b).length ≤ n:=by split <;> assumption
theorem lineK_len {k : Nat} {u v w o rd nn r q : List UInt8} (hu : u.length ≤ 1) (hv : v.length ≤ 1) (hw : w.length ≤ 1) (ho : o.length ≤ 3) (hrd : rd.length ≤ 4) (hnn : nn.length ≤ 1) (hr : r.length ≤ 1) (hq : q.length ≤ 14) : (lineK k u v w o rd nn r q).length ≤ 20:=by
 unfold lineK
 repeat' refine ite_len ?_ ?_
 all_goals first | omega | decide | (simp; omega)
theorem lineX_parts (n : Int) : (uT n).length ≤ 1 ∧ (bitT rstqT n 65536 4).length ≤ 1 ∧ (bitT rstqT n 262144 4).length ≤ 1 ∧ (nmT (n.fdiv 1048576)).length ≤ 3 ∧ (bitT rdT n 8388608 2).length ≤ 4 ∧ (bitT n23T n 8388608 2).length ≤ 1 ∧ (bitT rstqT n 16777216 4).length ≤ 1 ∧ (bitT nearT n 256 8).length ≤ 14 :=
 ⟨at_len (u_at n) rfl,at_len (bit_at n 65536 (by omega) (Nat.le_refl _)) rfl,at_len (bit_at n 262144 (by omega) (Nat.le_refl _)) rfl,at_len (nm_at _) rfl,at_len (bit_at n 8388608 (by omega) (Nat.le_refl _)) rfl,at_len (bit_at n 8388608 (by omega) (Nat.le_refl _)) rfl,at_len (bit_at n 16777216 (by omega) (Nat.le_refl _)) rfl,at_len (bit_at n 256 (by omega) (Nat.le_refl _)) rfl⟩
theorem lineX_len (n : Int) : (lineX n).length ≤ 20:=by
 obtain ⟨h1,h2,h3,h4,h5,h6,h7,h8⟩:=lineX_parts n
 exact lineK_len h1 h2 h3 h4 h5 h6 h7 h8
def F_entaillaw13_Line : Spec
 | [.int .i64 n]=>some (.str (lineX n))
 | _=>none
theorem kN_lt (n : Int) : kN n < 24:=Nat.mod_lt _ (by omega)
set_option maxHeartbeats 4000000 in
theorem line_wp (n : Int) : FunWp tyT (tab [(n_entaillaw1_Nm,F_entaillaw1_Nm)]) 153 q_entaillaw13_Line [.tmp 2] (cB Tryz.f22) [.int .i64 n] (fun v=>v = .str (lineX n)):=by
 have c1 : ∀ args,tab [(n_entaillaw1_Nm,F_entaillaw1_Nm)] n_entaillaw1_Nm args = F_entaillaw1_Nm args:=fun _=>rfl
 refine Eq.mpr (e_entaillaw13_Line (tab _) _ (.int .i64 n)) ?_
 have l1 : litK 1 [(.str [117]),(.str [118]),(.str [119])] = some (strsV uvwT):=lit_s (n:=1) (by simp) rfl
 have l2 : litK 1 [(.str [114]),(.str [115]),(.str [116]),(.str [113])] = some (strsV rstqT):=lit_s (n:=1) (by simp) rfl
 have l3 : litK 1 [(.str [114,101,97,100]),(.str [100,111])] = some (strsV rdT):=lit_s (n:=1) (by simp) rfl
 have l4 : litK 1 [(.str [50]),(.str [51])] = some (strsV n23T):=lit_s (n:=1) (by simp) rfl
 have l5 : litK 1 [(.str [117,115,101,114]),(.str [114,111,108,101,32,65]),(.str [115,115,100,32,97,32,49,32,114,32,115]),(.str [100,115,100,32,97,32,48,50,32,114,32,115]),(.str [103,114,97,110,116,32,114]),(.str [105,110,104,101,114,105,116,32,114,32,115,32,116]),(.str [117,115,101,114,32,97,32,98]),(.str [115,101,115,115,105,111,110,32,97])] = some (strsV nearT):=lit_s (n:=1) (by simp) rfl
 obtain ⟨hu,hv,hw,ho,hrd,hnn,hr,hq⟩:=lineX_parts n
 have r3 : binK .rem (vI ((n.fdiv 256 % ((256 : Nat) : Int)).toNat : Nat)) (.int .i64 3) = some (vI ((n.fdiv 256 % ((256 : Nat) : Int)).toNat % 3 : Nat)):=remM _ 3 (by omega)
 have r24 : binK .rem (vI ((n % ((256 : Nat) : Int)).toNat : Nat)) (.int .i64 24) = some (vI (kN n : Nat)):=remM _ 24 (by omega)
 have i2:=strAt (bit_at (l:=rstqT) (m:=4) n 65536 (by omega) (Nat.le_refl _))
 have i3:=strAt (bit_at (l:=rstqT) (m:=4) n 262144 (by omega) (Nat.le_refl _))
 have i4:=strAt (bit_at (l:=rdT) (m:=2) n 8388608 (by omega) (Nat.le_refl _))
 have i5:=strAt (bit_at (l:=n23T) (m:=2) n 8388608 (by omega) (Nat.le_refl _))
 have i6:=strAt (bit_at (l:=rstqT) (m:=4) n 16777216 (by omega) (Nat.le_refl _))
 have i7:=strAt (bit_at (l:=nearT) (m:=8) n 256 (by omega) (Nat.le_refl _))
 have hk:=kN_lt n
 unfold lineX
 simp only [l1,l2,l3,l4,l5,opt_s,shr8,shr16,shr18,shr20,shr23,shr24,and1,and3,and7,and255,r3,r24,strAt (u_at n),i2,i3,i4,i5,i6,i7,c1,F_entaillaw1_Nm]
 generalize uT n = u at *
 generalize bitT rstqT n 65536 4 = v at *
 generalize bitT rstqT n 262144 4 = w at *
 generalize nmT (n.fdiv 1048576) = o at *
 generalize bitT rdT n 8388608 2 = rd at *
 generalize bitT n23T n 8388608 2 = nn at *
 generalize bitT rstqT n 16777216 4 = r at *
 generalize bitT nearT n 256 8 = q at *
 clear i2 i3 i4 i5 i6 i7 r3 r24 l1 l2 l3 l4 l5 c1
 generalize kN n = k at *
 have e0 : binK .eql (vI (k : Nat)) (.int .i64 0) = some (.bool (decide (k = 0))):=bEqN k 0
 have e1 : binK .eql (vI (k : Nat)) (.int .i64 1) = some (.bool (decide (k = 1))):=bEqN k 1
 have e2 : binK .eql (vI (k : Nat)) (.int .i64 2) = some (.bool (decide (k = 2))):=bEqN k 2
 have e3 : binK .eql (vI (k : Nat)) (.int .i64 3) = some (.bool (decide (k = 3))):=bEqN k 3
 have e4 : binK .eql (vI (k : Nat)) (.int .i64 4) = some (.bool (decide (k = 4))):=bEqN k 4
 have e5 : binK .eql (vI (k : Nat)) (.int .i64 5) = some (.bool (decide (k = 5))):=bEqN k 5
 have e6 : binK .eql (vI (k : Nat)) (.int .i64 6) = some (.bool (decide (k = 6))):=bEqN k 6
 have e7 : binK .eql (vI (k : Nat)) (.int .i64 7) = some (.bool (decide (k = 7))):=bEqN k 7
 have e8 : binK .eql (vI (k : Nat)) (.int .i64 8) = some (.bool (decide (k = 8))):=bEqN k 8
 have e9 : binK .eql (vI (k : Nat)) (.int .i64 9) = some (.bool (decide (k = 9))):=bEqN k 9
 have e10 : binK .eql (vI (k : Nat)) (.int .i64 10) = some (.bool (decide (k = 10))):=bEqN k 10
 have e11 : binK .eql (vI (k : Nat)) (.int .i64 11) = some (.bool (decide (k = 11))):=bEqN k 11
 have e12 : binK .eql (vI (k : Nat)) (.int .i64 12) = some (.bool (decide (k = 12))):=bEqN k 12
 have e13 : binK .eql (vI (k : Nat)) (.int .i64 13) = some (.bool (decide (k = 13))):=bEqN k 13
 have e14 : binK .eql (vI (k : Nat)) (.int .i64 14) = some (.bool (decide (k = 14))):=bEqN k 14
 have e15 : binK .eql (vI (k : Nat)) (.int .i64 15) = some (.bool (decide (k = 15))):=bEqN k 15
 have e16 : binK .eql (vI (k : Nat)) (.int .i64 16) = some (.bool (decide (k = 16))):=bEqN k 16
 have e17 : binK .eql (vI (k : Nat)) (.int .i64 17) = some (.bool (decide (k = 17))):=bEqN k 17
 have e18 : binK .eql (vI (k : Nat)) (.int .i64 18) = some (.bool (decide (k = 18))):=bEqN k 18
 have e19 : binK .eql (vI (k : Nat)) (.int .i64 19) = some (.bool (decide (k = 19))):=bEqN k 19
 have e20 : binK .eql (vI (k : Nat)) (.int .i64 20) = some (.bool (decide (k = 20))):=bEqN k 20
 have hkk : k = 0 ∨ k = 1 ∨ k = 2 ∨ k = 3 ∨ k = 4 ∨ k = 5 ∨ k = 6 ∨ k = 7 ∨ k = 8 ∨ k = 9 ∨ k = 10 ∨ k = 11 ∨ k = 12 ∨ k = 13 ∨ k = 14 ∨ k = 15 ∨ k = 16 ∨ k = 17 ∨ k = 18 ∨ k = 19 ∨ k = 20 ∨ k = 21 ∨ k = 22 ∨ k = 23:=by omega
 rcases hkk with rfl | rfl | rfl | rfl | rfl | rfl | rfl | rfl | rfl | rfl | rfl | rfl | rfl | rfl | rfl | rfl | rfl | rfl | rfl | rfl | rfl | rfl | rfl | rfl <;>
  simp (disch:=(simp only [List.length_append,List.length_cons,List.length_nil]; omega)) only [e0,e1,e2,e3,e4,e5,e6,e7,e8,e9,e10,e11,e12,e13,e14,e15,e16,e17,e18,e19,e20,opt_s,joinP_eq,iteB_true,iteB_false,gv_0,gv_s,bSadd,lineK,Nat.reduceEqDiff,Nat.reduceLT,eq_self,decide_true,decide_false,if_true,if_false,List.length_cons,List.length_nil,Nat.reduceAdd,true_and,and_true,reduceCtorEq]
theorem ok_entaillaw13_Line : SpecL Tryz.prog n_entaillaw13_Line F_entaillaw13_Line:=by
 refine go_entaillaw13_Line (T:=[(n_entaillaw1_Nm,F_entaillaw1_Nm)]) (TabOk.cons ok_entaillaw1_Nm TabOk.nil) fun args v hv=>?_
 unfold F_entaillaw13_Line at hv
 split at hv <;> simp only [Option.some.injEq,reduceCtorEq] at hv
 rename_i n
 subst hv
 exact ⟨rfl,rfl,rfl,line_wp n⟩
end Go.Fbs
