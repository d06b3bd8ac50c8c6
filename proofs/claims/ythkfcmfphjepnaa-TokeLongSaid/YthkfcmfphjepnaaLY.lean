import Derived.Test.YthkfcmfphjepnaaLX
import Derived.Test.YthkfcmfphjepnaaFbsU
set_option linter.unusedVariables false
set_option linter.unusedSimpArgs false
namespace Go.Fbs
open Go.Proofs

theorem and_mask (P : Program) (t : TypeId) (a : Int) (q : Nat) (hq : q < 9223372036854775808) : ∃ j : Nat, j ≤ q ∧ binV P .and t (.int .i64 a) (.int .i64 q) = some (.int .i64 j) := by
  have h : (BitVec.ofInt 64 (q : Int)).toNat = q := by
    rw [BitVec.toNat_ofInt]; omega
  have h2 : (BitVec.ofInt 64 a &&& BitVec.ofInt 64 (q : Int)).toNat ≤ q := by
    rw [BitVec.toNat_and, h]; exact Nat.and_le_right
  refine ⟨(BitVec.ofInt 64 a &&& BitVec.ofInt 64 (q : Int)).toNat, h2, ?_⟩
  simp only [binV, intBin, if_true]
  have e := wrap_in (x := (((BitVec.ofInt 64 a &&& BitVec.ofInt 64 (q : Int)).toNat : Nat) : Int)) (by omega) (by omega)
  exact congrArg some (congrArg (V.int .i64) e)

def chr (i : Nat) : UInt8 := UInt8.ofNat (97 + i % 26)
def sN (n : Nat) : List UInt8 := (List.range n).map chr
theorem sN_len (n : Nat) : (sN n).length = n := by simp [sN]
theorem sN_succ (n : Nat) : sN (n + 1) = sN n ++ [chr n] := by simp [sN, List.range_succ]

def sg (k : Nat) : List UInt8 := ([[45, 62], [45], [45, 45], [45, 62, 45]] : List (List UInt8)).getD k []
def sg1 (k : Nat) : List UInt8 := ([[45, 62], [45], [45], [45, 62]] : List (List UInt8)).getD k []
def wantK (k : Nat) : Nat := [4, 4, 5, 5].getD k 0
def longText (n k : Nat) : List UInt8 := sN n ++ sg k ++ sN n ++ [47, 47, 32] ++ sN n ++ [45, 62, 10] ++ sN n

def chkLong (n k : Nat) : Bool :=
  let r := tokensT (longText n k)
  r.2.1 == 0 && r.2.2 == 0 && r.1.length == wantK k && (r.1[0]?).map (·.2.2) == some (sN n) && (r.1[wantK k - 1]?).map (fun x => (x.2.1, x.2.2)) == some (2 * n + (sg k).length + 3 + n + 3, sN n) && (r.1[1]?).map (·.2.2) == some (sg1 k)
theorem chkLong_all : ((List.range 33).all fun n => (List.range 4).all fun k => n == 0 || chkLong n k) = true := by kernel_rfl
def chkC (c : Nat) : Bool :=
  let r := tokensT ([97, 32, 47, 47] ++ [UInt8.ofNat c] ++ [10, 98])
  c == 10 || (r.2.2 == 0 && r.1.length == 2)
theorem chkC_all : ((List.range 256).all fun c => chkC c) = true := by kernel_rfl

theorem longText_len (n k : Nat) : (longText n k).length = n + (sg k).length + n + 3 + n + 3 + n := by
  simp [longText, sN_len]; omega
theorem idx_tok {ts : List (Int × Nat × List UInt8)} {j : Nat} {x : Int × Nat × List UInt8} (h : ts[j]? = some x) : indexAddrL 3 (tokensV ts) (.int .i64 j) = some (.ro [vI x.1, vI x.2.1, .str x.2.2]) := by
  simp [tokensV, indexAddrL, h, tokW, tokV, V.cells]
theorem len_tok (ts : List (Int × Nat × List UInt8)) : lenL (tokensV ts) = some (.int .i64 ts.length) := by
  simp [tokensV, lenL]

section
attribute [local irreducible] tokensT longText sN
theorem long_facts {n k : Nat} (h1 : 1 ≤ n) (hn : n ≤ 32) (hk : k ≤ 3) : ∃ L x y z, F_toke_Tokens [.str (longText n k)] = some (.tup [L, vI 0, vI 0]) ∧ lenL L = some (.int .i64 (wantK k)) ∧
    indexAddrL 3 L (.int .i64 0) = some (.ro [x, y, .str (sN n)]) ∧ indexAddrL 3 L (.int .i64 ((wantK k - 1 : Nat) : Int)) = some (.ro [z, vI ((2 * n + (sg k).length + 3 + n + 3 : Nat) : Int), .str (sN n)]) ∧
    ∃ u v, indexAddrL 3 L (.int .i64 1) = some (.ro [u, v, .str (sg1 k)]) := by
  have h := chkLong_all
  rw [List.all_eq_true] at h
  have h := h n (List.mem_range.2 (by omega))
  rw [List.all_eq_true] at h
  have h := h k (List.mem_range.2 (by omega))
  have hn0 : (n == 0) = false := by (simp; omega)
  rw [hn0, Bool.false_or] at h
  unfold chkLong at h
  simp only [Bool.and_eq_true, beq_iff_eq] at h
  obtain ⟨⟨⟨⟨⟨e1, e2⟩, e3⟩, e4⟩, e5⟩, e6⟩ := h
  have hlen : (longText n k).length ≤ big := by
    have : (sg k).length ≤ 3 := by
      match k, hk with
      | 0, _ => decide
      | 1, _ => decide
      | 2, _ => decide
      | 3, _ => decide
    rw [longText_len]; unfold big; omega
  obtain ⟨a, ha, hax⟩ := Option.map_eq_some_iff.1 e4
  obtain ⟨b, hb, hbx⟩ := Option.map_eq_some_iff.1 e5
  obtain ⟨c, hc, hcx⟩ := Option.map_eq_some_iff.1 e6
  refine ⟨tokensV (tokensT (longText n k)).1, vI a.1, vI a.2.1, vI b.1, ?_, by rw [len_tok, e3], ?_, ?_, vI c.1, vI c.2.1, ?_⟩
  · simp only [F_toke_Tokens, if_pos hlen, e1, e2]; rfl
  · have := idx_tok ha; rw [hax] at this; exact this
  · have := idx_tok hb
    simp only [Prod.mk.injEq] at hbx
    rw [hbx.1, hbx.2] at this; exact this
  · have := idx_tok hc; rw [hcx] at this; exact this
theorem c_facts {c : Int} (h0 : 0 ≤ c) (h1 : c < 256) (hc : c ≠ 10) : ∃ L x, F_toke_Tokens [.str ([97, 32, 47, 47] ++ [UInt8.ofNat c.toNat] ++ [10, 98])] = some (.tup [L, x, vI 0]) ∧ lenL L = some (.int .i64 2) := by
  have h := chkC_all
  rw [List.all_eq_true] at h
  have h := h c.toNat (List.mem_range.2 (by omega))
  have hn0 : (c.toNat == 10) = false := by (simp; omega)
  unfold chkC at h
  rw [hn0, Bool.false_or] at h
  simp only [Bool.and_eq_true, beq_iff_eq] at h
  obtain ⟨e1, e2⟩ := h
  refine ⟨tokensV (tokensT ([97, 32, 47, 47] ++ [UInt8.ofNat c.toNat] ++ [10, 98])).1, vI (tokensT ([97, 32, 47, 47] ++ [UInt8.ofNat c.toNat] ++ [10, 98])).2.1, ?_, by rw [len_tok, e2]; rfl⟩
  have hl : ([97, 32, 47, 47] ++ [UInt8.ofNat c.toNat] ++ [10, 98] : List UInt8).length ≤ big := Nat.le_of_ble_eq_true rfl
  simp only [F_toke_Tokens, if_pos hl, e1]
end
end Go.Fbs
