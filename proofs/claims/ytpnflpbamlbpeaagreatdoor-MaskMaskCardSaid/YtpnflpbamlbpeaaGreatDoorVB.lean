import Derived.Test.YtpnflpbamlbpeaaGreatDoorVA
import Derived.Test.YtpnflpbamlbpeaaGreatDoorS2
set_option linter.unusedSimpArgs false
set_option linter.unusedVariables false
set_option linter.unusedSectionVars false
set_option maxRecDepth 100000
namespace Go.Fbs
def alnB (c : Int) : Bool:=decide (97 ≤ c) && decide (c ≤ 122) || decide (48 ≤ c) && decide (c ≤ 57)
def nameB (c : Int) : Bool:=alnB c || decide (c = 95) || decide (c = 45) || decide (c = 46)
def nameD (l : List UInt8) : Bool:=decide (1 ≤ l.length) && decide (l.length ≤ 30) && alnB (l.getD 0 0).toNat && l.all (fun c=>nameB c.toNat)
def bitO (a b : Int) : Int:=IntKind.i64.wrap ((BitVec.ofInt 64 a ||| BitVec.ofInt 64 b).toNat : Int)
theorem ofInt_wrap (b : BitVec 64) : BitVec.ofInt 64 (IntKind.i64.wrap (b.toNat : Int)) = b:=by
 apply BitVec.eq_of_toNat_eq
 rw [BitVec.toNat_ofInt]
 have:=b.isLt
 have e : (b.toNat : Int) % 2 ^ 64 = b.toNat:=by omega
 simp only [IntKind.wrap,IntKind.bits,IntKind.signed,e]
 by_cases h : (b.toNat : Int) ≥ 2 ^ (64 - 1)
 ·rw [if_pos (by simp only [h]; decide)]; omega
 ·rw [if_neg (by simp only [h]; decide)]; omega
theorem ofInt_or (a b : Int) : BitVec.ofInt 64 (bitO a b) = BitVec.ofInt 64 a ||| BitVec.ofInt 64 b:=ofInt_wrap _
theorem bitO_right (z x y : Int) : bitO (bitO z x) y = bitO (bitO z y) x:=by
 have h1 : bitO (bitO z x) y = IntKind.i64.wrap ((BitVec.ofInt 64 (bitO z x) ||| BitVec.ofInt 64 y).toNat : Int):=rfl
 have h2 : bitO (bitO z y) x = IntKind.i64.wrap ((BitVec.ofInt 64 (bitO z y) ||| BitVec.ofInt 64 x).toNat : Int):=rfl
 rw [h1,h2,ofInt_or,ofInt_or,BitVec.or_assoc,BitVec.or_assoc,BitVec.or_comm (BitVec.ofInt 64 x)]
def octB (n : Int) : Bool:=decide (0 ≤ n) && decide (n ≤ 7)
theorem bitO_small {a b : Int} (ha : octB a = true) (hb : octB b = true) : octB (bitO a b) = true:=by
 simp only [octB,Bool.and_eq_true,decide_eq_true_eq] at ha hb
 have h : ∀ a < 8,∀ b < 8,octB (bitO ((a : Nat) : Int) ((b : Nat) : Int)) = true:=by decide +kernel
 have:=h a.toNat (by omega) b.toNat (by omega)
 rwa [Int.toNat_of_nonneg ha.1,Int.toNat_of_nonneg hb.1] at this
def goodE (x : Ent) : Bool:=(if x.kind = 2 ∨ x.kind = 4 then nameD x.name else x.name == []) && decide (1 ≤ x.kind) && decide (x.kind ≤ 6) && octB x.bits
def hasE (l : List Ent) (d : Bool) (k : Int) : Bool:=l.any fun x=>x.dflt == d && decide (x.kind = k) && x.name == []
def wholeM (l : List Ent) (d : Bool) : Bool:=hasE l d 1 && hasE l d 3 && hasE l d 6
def bearsE (d : Bool) (x : Ent) : Bool:=x.dflt == d && (decide (x.kind = 2) || decide (x.kind = 3) || decide (x.kind = 4))
def orB (d : Bool) (l : List Ent) (n : Int) : Int:=l.foldl (fun n x=>if bearsE d x then bitO n x.bits else n) n
def maskE (d : Bool) (l : List Ent) : Ent:=⟨5,d,[],orB d l 0⟩
def addM (d : Bool) (l : List Ent) : List Ent:=if hasE l d 5 then l else l ++ [maskE d l]
def lastD (l : List Ent) : Bool:=match l.getLast? with | some x=>x.dflt | none=>false
def okE (s : List Ent) : Bool:=s.all goodE && adjE s
def wholeL (s : List Ent) : Bool:=wholeM s false && (!lastD s || wholeM s true)
def masksM (s : List Ent) : List Ent:=if lastD s then addM true (addM false s) else addM false s
def aclM (l : List Ent) : Option (List Ent) :=
 if okE (sortE l) && wholeL (sortE l) then
  if (masksM (sortE l)).length ≤ 100 then some (sortE (masksM (sortE l))) else none
 else none
theorem any_perm {l d : List Ent} {p : Ent → Bool} (h : d.Perm l) : d.any p = l.any p:=by
 rw [Bool.eq_iff_iff,List.any_eq_true,List.any_eq_true]
 exact ⟨fun ⟨x,h1,h2⟩=>⟨x,h.mem_iff.1 h1,h2⟩,fun ⟨x,h1,h2⟩=>⟨x,h.mem_iff.2 h1,h2⟩⟩
theorem all_perm {l d : List Ent} {p : Ent → Bool} (h : d.Perm l) : d.all p = l.all p:=by
 rw [Bool.eq_iff_iff,List.all_eq_true,List.all_eq_true]
 exact ⟨fun g x h1=>g x (h.mem_iff.2 h1),fun g x h1=>g x (h.mem_iff.1 h1)⟩
theorem has_perm {l d : List Ent} {b : Bool} {k : Int} (h : d.Perm l) : hasE d b k = hasE l b k:=any_perm h
theorem whole_perm {l d : List Ent} {b : Bool} (h : d.Perm l) : wholeM d b = wholeM l b:=by unfold wholeM; rw [has_perm h,has_perm h,has_perm h]
theorem or_perm {l d : List Ent} {b : Bool} {n : Int} (h : d.Perm l) : orB b d n = orB b l n:=by
 refine h.foldl_eq' (fun x _ y _ z=>?_) n
 cases bearsE b x <;> cases bearsE b y <;> simp [bitO_right z x.bits y.bits]
theorem or_app {l d : List Ent} {b : Bool} {n : Int} : orB b (l ++ d) n = orB b d (orB b l n):=List.foldl_append
theorem last_some {s : List Ent} (h : s.Pairwise leE) : lastD s = s.any (·.dflt):=by
 unfold lastD
 cases hl : s.getLast? with
 | none =>
  rw [List.getLast?_eq_none_iff] at hl
  subst hl; rfl
 | some x =>
  obtain ⟨t,rfl⟩:=List.getLast?_eq_some_iff.1 hl
  show x.dflt = _
  cases hx : x.dflt with
  | true=>rw [List.any_append]; simp [hx]
  | false =>
   symm
   rw [List.any_eq_false]
   intro y hy hd
   rcases List.mem_append.1 hy with hy | hy
   ·have hp:=(List.pairwise_append.1 h).2.2 y hy x (by simp)
    refine hp ?_
    unfold cmpE lexC
    have e : Lib.compareInt (flagI x.dflt) (flagI y.dflt) = -1:=by rw [hx,hd]; rfl
    simp only [e]
    rw [if_neg (by decide)]; decide
   ·rw [List.mem_singleton.1 hy,hx] at hd; cases hd
structure Fine (l : List Ent) : Prop where
 good : l.all goodE = true
 dis : Dis l
 whole : wholeM l false = true
 some_ : l.any (·.dflt) = true → wholeM l true = true
 len : l.length ≤ 98
theorem Fine.perm {l d : List Ent} (h : Fine l) (p : d.Perm l) : Fine d :=
 ⟨by rw [all_perm p]; exact h.good,(dis_perm p).2 h.dis,by rw [whole_perm p]; exact h.whole,by rw [any_perm p,whole_perm p]; exact h.some_,by rw [p.length_eq]; exact h.len⟩
theorem addM_len (d : Bool) (l : List Ent) : (addM d l).length ≤ l.length + 1:=by
 unfold addM; split
 ·omega
 ·simp
theorem masksM_len (s : List Ent) : (masksM s).length ≤ s.length + 2:=by
 unfold masksM
 have h1:=addM_len false s
 have h2:=addM_len true (addM false s)
 split <;> omega
theorem acl_some {l : List Ent} (h : Fine l) : aclM l = some (sortE (masksM (sortE l))):=by
 have p:=sortE_perm l
 have f:=h.perm p
 unfold aclM
 have h1 : okE (sortE l) = true:=by
  unfold okE
  rw [f.good,(adj_dis (sortE_sorted l)).2 f.dis]; rfl
 have h2 : wholeL (sortE l) = true:=by
  unfold wholeL
  rw [f.whole,last_some (sortE_sorted l)]
  cases hd : (sortE l).any (·.dflt)
  ·rfl
  ·rw [f.some_ hd]; rfl
 rw [h1,h2]
 have h3:=masksM_len (sortE l)
 have h4:=f.len
 have h5 : (masksM (sortE l)).length ≤ 100:=by omega
 simp [h5]
theorem acl_perm {l l' : List Ent} (h : Fine l) (p : l'.Perm l) : aclM l' = aclM l:=by
 unfold aclM
 rw [sort_perm p ((dis_perm p).2 h.dis)]
theorem acl_dup {l : List Ent} {x : Ent} (h : x ∈ l) : aclM (l ++ [x]) = none:=by
 unfold aclM
 have h1 : okE (sortE (l ++ [x])) = false:=by
  unfold okE
  have : adjE (sortE (l ++ [x])) = false:=by
   rw [Bool.eq_false_iff]
   intro ha
   rw [adj_dis (sortE_sorted _),dis_perm (sortE_perm _)] at ha
   exact (List.pairwise_append.1 ha).2.2 x h x (by simp) (cmpE_ok.self x)
  rw [this,Bool.and_false]
 rw [h1]; rfl
end Go.Fbs
