import Derived.Lib.Join
set_option linter.unusedSimpArgs false
set_option linter.unusedVariables false
set_option linter.unusedSectionVars false
set_option maxRecDepth 100000
namespace Go.Fbs
abbrev Wrd:=List UInt8 × Nat
abbrev Lin:=Nat × List Wrd
def isBl (c : UInt8) : Bool:=c == 32 || c == 9
def wordL (l : List UInt8) : List UInt8:=l.takeWhile fun c=>!isBl c
def wordsF : Nat → List UInt8 → Nat → List Wrd
 | 0,_,_=>[]
 | _ + 1,[],_=>[]
 | f + 1,c :: r,k=>if isBl c = true then wordsF f r (k + 1) else if c = 35 then [] else (wordL (c :: r),k) :: wordsF f ((c :: r).drop (wordL (c :: r)).length) (k + (wordL (c :: r)).length)
def wordsM (l : List UInt8) (k : Nat) : List Wrd:=wordsF l.length l k
def badC (c : UInt8) : Bool:=c != 9 && (decide (c.toNat < 32) || decide (126 < c.toNat))
def wrongM (l : List UInt8) : Option Nat:=l.findIdx? badC
def bareM (l : List UInt8) : List UInt8:=if l.getLast? = some 13 then l.dropLast else l
def pieces : List UInt8 → List (List UInt8)
 | []=>[[]]
 | c :: r=>if c = 10 then [] :: pieces r else match pieces r with | []=>[[c]] | p :: ps=>(c :: p) :: ps
def lineM (p : List UInt8) (k : Nat) : List Lin:=match wordsM p k with | []=>[] | w :: ws=>[(w.2,w :: ws)]
def linesF : List (List UInt8) → Nat → List Lin → List Lin × Nat × Int
 | [],_,out=>(out,0,0)
 | p :: ps,k,out =>
  match wrongM (bareM p) with
  | some j=>([],k + j,7)
  | none=>linesF ps (k + p.length + 1) (out ++ lineM (bareM p) k)
def linesM (l : List UInt8) : List Lin × Nat × Int:=if 200000 < l.length ∨ 5000 < l.count 10 then ([],0,8) else linesF (pieces l) 0 []
theorem takeW_all {f : UInt8 → Bool} : ∀ {a b : List UInt8},(∀ c ∈ a,f c = true) → (∀ c,b.head? = some c → f c = false) → (a ++ b).takeWhile f = a
 | [],[],_,_=>rfl
 | [],c :: b,_,h=>by
  have:=h c rfl
  simp [List.takeWhile_cons,this]
 | c :: a,b,h,g=>by
  rw [List.cons_append,List.takeWhile_cons,if_pos (h c List.mem_cons_self),takeW_all (fun d hd=>h d (List.mem_cons_of_mem _ hd)) g]
def joinT (ws : List (List UInt8)) : List UInt8:=Lib.join ws [32]
theorem wordsF_fuel : ∀ (f g : Nat) (l : List UInt8) (k : Nat),l.length ≤ f → l.length ≤ g → wordsF f l k = wordsF g l k
 | 0,0,_,_,_,_=>rfl
 | 0,g + 1,l,k,h,_=>by
  obtain rfl : l = []:=List.length_eq_zero_iff.1 (by omega)
  rfl
 | f + 1,0,l,k,_,h=>by
  obtain rfl : l = []:=List.length_eq_zero_iff.1 (by omega)
  rfl
 | f + 1,g + 1,[],k,_,_=>rfl
 | f + 1,g + 1,c :: r,k,h1,h2=>by
  simp only [List.length_cons] at h1 h2
  unfold wordsF
  split
  ·exact wordsF_fuel f g r _ (by omega) (by omega)
  ·rename_i hb
   split
   ·rfl
   ·have hw : 1 ≤ (wordL (c :: r)).length:=by
     unfold wordL
     rw [List.takeWhile_cons,if_pos (by simpa using hb)]
     simp
    rw [wordsF_fuel f g _ _ (by rw [List.length_drop,List.length_cons]; omega) (by rw [List.length_drop,List.length_cons]; omega)]
theorem pieces_line {p r : List UInt8} (h : ∀ c ∈ p,c ≠ 10) : pieces (p ++ 10 :: r) = p :: pieces r:=by
 induction p with
 | nil=>rfl
 | cons c p ih =>
  rw [List.cons_append]
  conv=>lhs; unfold pieces
  rw [if_neg (h c List.mem_cons_self),ih fun d hd=>h d (List.mem_cons_of_mem _ hd)]
end Go.Fbs
