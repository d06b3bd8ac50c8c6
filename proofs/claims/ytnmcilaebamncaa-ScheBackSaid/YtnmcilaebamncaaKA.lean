/- Schemas read: the parser's small functions. -/
import Derived.Test.YtnmcilaebamncaaCC
import Derived.Test.YtnmcilaebamncaaS2
set_option maxRecDepth 100000
namespace Go.Fbs
open Go.Proofs
open Classical in
noncomputable def specOf {α : Type} (c : α → List V) (ok : α → Prop) (r : α → V) : Spec:=fun words=>if h : ∃ a,words = c a ∧ ok a then some (r (Classical.choose h)) else none
theorem specOf_eq {α : Type} {c : α → List V} {ok : α → Prop} {r : α → V} (inj : ∀ a b,c a = c b → a = b) {a : α} (h : ok a) : specOf c ok r (c a) = some (r a):=by
 have hex : ∃ b,c a = c b ∧ ok b:=⟨a,rfl,h⟩
 unfold specOf
 rw [dif_pos hex,← inj _ _ (Classical.choose_spec hex).1]
theorem specOf_inv {α : Type} {c : α → List V} {ok : α → Prop} {r : α → V} {words : List V} {v : V} (h : specOf c ok r words = some v) : ∃ a,words = c a ∧ ok a ∧ v = r a:=by
 unfold specOf at h
 split at h
 ·rename_i hex
  simp only [Option.some.injEq] at h
  exact ⟨_,(Classical.choose_spec hex).1,(Classical.choose_spec hex).2,h.symm⟩
 ·simp at h
abbrev Tok:=Int × Nat × List UInt8
abbrev Stp:=Int × List UInt8 × List UInt8
def okTok (t : Tok) : Prop:=t.1 = 1 → t.2.2 ≠ []
structure PSt where
 l : List Tok
 w : ∀ t ∈ l,okTok t
 n : Nat
 at_ : Nat
 e : Int
 d : Nat
 x : List Stp
def stpW (s : Stp) : V:=.agg [vI s.1,.str s.2.1,.str s.2.2]
def stpsV (l : List Stp) : V:=.sl .ro (l.map stpW)
def vSt (s : PSt) : V:=.agg [tokensV s.l,vI s.n,vI s.at_,vI s.e,vI s.d,stpsV s.x]
theorem tokW_inj {a b : Tok} (h : tokW a = tokW b) : a = b:=by
 obtain ⟨k,n,x⟩:=a
 obtain ⟨k',n',x'⟩:=b
 simp only [tokW,tokV,V.agg.injEq,List.cons.injEq,V.int.injEq,V.str.injEq,and_true,true_and] at h
 obtain ⟨h1,h2,h3⟩:=h
 rw [h1,h3,Int.ofNat_inj.1 h2]
theorem stpW_inj {a b : Stp} (h : stpW a = stpW b) : a = b:=by
 obtain ⟨k,n,x⟩:=a
 obtain ⟨k',n',x'⟩:=b
 simp only [stpW,V.agg.injEq,List.cons.injEq,V.int.injEq,V.str.injEq,and_true,true_and] at h
 obtain ⟨h1,h2,h3⟩:=h
 rw [h1,h2,h3]
theorem map_injV {α : Type} {f : α → V} (hf : ∀ a b,f a = f b → a = b) : ∀ {l m : List α},l.map f = m.map f → l = m
 | [],[],_=>rfl
 | [],_ :: _,h=>by simp at h
 | _ :: _,[],h=>by simp at h
 | a :: l,b :: m,h=>by
  simp only [List.map_cons,List.cons.injEq] at h
  rw [hf a b h.1,map_injV hf h.2]
theorem vSt_inj {s t : PSt} (h : vSt s = vSt t) : s = t:=by
 obtain ⟨l,w,n,a,e,d,x⟩:=s
 obtain ⟨l',w',n',a',e',d',x'⟩:=t
 simp only [vSt,tokensV,stpsV,V.agg.injEq,List.cons.injEq,V.int.injEq,V.sl.injEq,and_true,true_and] at h
 obtain ⟨h1,h2,h3,h4,h5,h6⟩:=h
 obtain rfl:=map_injV (fun _ _=>tokW_inj) h1
 obtain rfl:=map_injV (fun _ _=>stpW_inj) h6
 obtain rfl:=Int.ofNat_inj.1 h2
 obtain rfl:=Int.ofNat_inj.1 h3
 obtain rfl:=Int.ofNat_inj.1 h5
 subst h4
 rfl
theorem vSt_cano (s : PSt) : (vSt s).cano = true:=by
 simp only [vSt,tokensV,stpsV,V.cano,canos,Bool.and_eq_true,and_true,true_and]
 exact ⟨canos_map fun _=>rfl,canos_map fun _=>rfl⟩
theorem tokW_cano (t : Tok) : (tokW t).cano = true:=rfl
def hereM (s : PSt) : Tok:=s.l.headD (0,s.n,[])
def popM (s : PSt) : PSt:={ s with l:=s.l.tail,w:=fun t h=>s.w t (List.mem_of_mem_tail h) }
def failM (e : Int) (s : PSt) : PSt:=if s.e = 0 then { s with e:=e,at_:=(hereM s).2.1 } else s
def isM (g : List UInt8) (s : PSt) : Bool:=decide ((hereM s).1 = 2) && ((hereM s).2.2 == g)
def wordM (s : PSt) : Bool:=decide ((hereM s).1 = 1) && ((hereM s).2.2 == [116,121,112,101])
def namedM (t : Tok) : Bool:=decide (t.1 = 1) && (decide (t.2.2.length ≤ 30) && ((t.2.2.head? != some 95) && (t.2.2 != [116,121,112,101])))
def someM (n most : Int) (s : PSt) : Bool × PSt:=if n < most then (true,s) else (false,failM 8 s)
def nameM (s : PSt) : Bool × PSt × Option (List UInt8):=if namedM (hereM s) then (true,popM s,some (hereM s).2.2) else (false,failM 9 s,none)
def signM (g : List UInt8) (s : PSt) : Bool × PSt:=if isM g s then (true,popM s) else (false,failM 9 s)
def mayM (g : List UInt8) (s : PSt) : Bool × PSt:=if isM g s then (true,popM s) else (false,s)
def putM (p : Stp) (a : Nat) (s : PSt) : Bool × PSt:=if 200 ≤ s.x.length then (false,{ s with e:=8,at_:=a }) else (true,{ s with x:=s.x ++ [p] })
theorem is_ne {g : List UInt8} {s : PSt} (h : isM g s = true) : s.l ≠ []:=by
 intro e
 simp [isM,hereM,e] at h
theorem named_ne {s : PSt} (h : namedM (hereM s) = true) : s.l ≠ []:=by
 intro e
 simp [namedM,hereM,e] at h
theorem here_mem {s : PSt} (h : s.l ≠ []) : hereM s ∈ s.l:=by
 unfold hereM
 cases hl : s.l with
 | nil=>exact absurd hl h
 | cons a r=>exact List.mem_cons_self
theorem agS0 (s : PSt) : aggK [tokensV s.l,vI s.n,vI s.at_,vI s.e,vI s.d,stpsV s.x] = some (vSt s):=nr rfl
theorem agS (s : PSt) : aggK [cellD (vSt s) 0,cellD (vSt s) 1,cellD (vSt s) 2,cellD (vSt s) 3,cellD (vSt s) 4,cellD (vSt s) 5] = some (vSt s):=nr rfl
theorem chS (s : PSt) : chkK 6 (vSt s) = some (vSt s):=nr rfl
theorem chT (t : Tok) : chkK 3 (tokW t) = some (tokW t):=nr rfl
theorem cT0 (t : Tok) : cellD (tokW t) 0 = vI t.1:=nr rfl
theorem cT2 (t : Tok) : cellD (tokW t) 2 = .str t.2.2:=nr rfl
theorem pT1 (t : Tok) : partK false 1 1 (tokW t) = some (vI t.2.1):=nr rfl
theorem pT2 (t : Tok) : partK false 1 2 (tokW t) = some (.str t.2.2):=nr rfl
theorem x0 (a : V) (r : List V) : extractV (.tup (a :: r)) 0 = some a:=nr rfl
theorem x1 (a b : V) (r : List V) : extractV (.tup (a :: b :: r)) 1 = some b:=nr rfl
theorem x2 (a b c : V) (r : List V) : extractV (.tup (a :: b :: c :: r)) 2 = some c:=nr rfl
theorem x3 (a b c d : V) (r : List V) : extractV (.tup (a :: b :: c :: d :: r)) 3 = some d:=nr rfl
theorem agFail (s : PSt) (a : Nat) (e : Int) : aggK [cellD (vSt s) 0,cellD (vSt s) 1,vI a,vI e,cellD (vSt s) 4,cellD (vSt s) 5] = some (vSt { s with e:=e,at_:=a }):=nr rfl
theorem tok_all (l : List Tok) : (l.map tokW).all (fun e=>e.cells.length == 3) = true:=by simp [tokW,tokV,V.cells]
theorem slTail {l : List Tok} (h : l ≠ []) : slLK 3 (tokensV l) (some (.int .i64 1)) none = some (tokensV l.tail):=by
 cases l with
 | nil=>exact absurd rfl h
 | cons a r =>
  have h1 : (1 : Int) ≤ (r.length : Int) + 1:=by omega
  have:=tok_all (a :: r)
  simp only [List.map_cons] at this
  simp [slLK,tokensV,boundV,h1,this,tok_all,List.take_of_length_le]
theorem sl0 {s : PSt} (h : s.l ≠ []) : slLK 3 (cellD (vSt s) 0) (some (.int .i64 1)) none = some (tokensV (popM s).l):=slTail h
theorem agPop2 (s : PSt) : aggK [tokensV (popM s).l,cellD (vSt s) 1,cellD (vSt s) 2,cellD (vSt s) 3,cellD (vSt s) 4,cellD (vSt s) 5] = some (vSt (popM s)):=nr rfl
theorem ck1I (n : Int) : chk1K (vI n) = some (vI n):=nr rfl
theorem ckB (b : Bool) : chkBK (.bool b) = some (.bool b):=nr rfl
noncomputable def F_x_sche_parser_here : Spec:=specOf (fun s : PSt=>[vSt s]) (fun _=>True) (fun s=>.tup [tokW (hereM s),vSt s])
theorem inj1 : ∀ a b : PSt,[vSt a] = [vSt b] → a = b:=fun a b h=>vSt_inj (by simpa using h)
theorem Fhere (s : PSt) : F_x_sche_parser_here [vSt s] = some (.tup [tokW (hereM s),vSt s]):=specOf_eq inj1 trivial
theorem okx_sche_parser_here : SpecE Try.prog n_sche_parser_here s_x_sche_parser_here F_x_sche_parser_here:=by
 refine go_x_sche_parser_here (T:=[]) TabOk.nil fun words v hv=>?_
 obtain ⟨s,rfl,_,rfl⟩:=specOf_inv hv
 refine ⟨_,rfl,rfl,by simp [canos,vSt_cano],by simp [canos,vSt_cano,tokW_cano],rfl,rfl,?_⟩
 refine Eq.mpr (e_x_sche_parser_here (tab _) _ (tokensV s.l) (vI s.n) (vI s.at_) (vI s.e) (vI s.d) (stpsV s.x)) ?_
 have hlen : lenL (tokensV s.l) = some (.int .i64 s.l.length):=by simp [lenL,tokensV]
 simp only [hlen,sS,if_true,if_false,reduceCtorEq,agS0]
 cases hl : s.l with
 | nil =>
  have hd : decide ((([] : List Tok).length : Int) = 0) = true:=rfl
  have ha : aggK [.int .i64 0,vI s.n,.str []] = some (tokW (hereM s)):=by simp only [hereM,hl,List.headD_nil]; rfl
  simp only [hd,if_true,ha,opt_s]
 | cons a r =>
  have hd : decide (((a :: r).length : Int) = 0) = false:=by simp; omega
  have hi : idxLK true 3 (tokensV (a :: r)) (.int .i64 0) = some (tokW (hereM s)):=by
   simp only [hereM,hl,List.headD_cons]
   exact idxL_agg (g:=.ro) (es:=(a :: r).map tokW) (k:=0) (cs:=[vI a.1,vI a.2.1,.str a.2.2]) (n:=3) rfl rfl rfl .i64
  simp only [hd,Bool.false_eq_true,if_false,hi,opt_s]
noncomputable def F_x_sche_parser_fail : Spec:=specOf (fun q : PSt × Int=>[vSt q.1,vI q.2]) (fun _=>True) (fun q=>.tup [.bool false,vSt (failM q.2 q.1)])
theorem injSI : ∀ a b : PSt × Int,[vSt a.1,vI a.2] = [vSt b.1,vI b.2] → a = b:=fun a b h=>by
 simp only [List.cons.injEq,V.int.injEq,and_true,true_and] at h
 exact Prod.ext (vSt_inj h.1) h.2
theorem Ffail (s : PSt) (e : Int) : F_x_sche_parser_fail [vSt s,vI e] = some (.tup [.bool false,vSt (failM e s)]):=specOf_eq (a:=(s,e)) injSI trivial
theorem okx_sche_parser_fail : SpecE Try.prog n_sche_parser_fail s_x_sche_parser_fail F_x_sche_parser_fail:=by
 refine go_x_sche_parser_fail (T:=[(x_sche_parser_here,F_x_sche_parser_here)]) (TabOk.consE okx_sche_parser_here TabOk.nil) fun words v hv=>?_
 have c1 : ∀ args,tab [(x_sche_parser_here,F_x_sche_parser_here)] x_sche_parser_here args = F_x_sche_parser_here args:=fun _=>rfl
 obtain ⟨⟨s,e⟩,rfl,_,rfl⟩:=specOf_inv hv
 refine ⟨_,rfl,rfl,by simp [canos,vSt_cano,V.cano],by simp [canos,vSt_cano,V.cano],rfl,rfl,?_⟩
 refine Eq.mpr (e_x_sche_parser_fail (tab _) _ (tokensV s.l) (vI s.n) (vI s.at_) (vI s.e) (vI s.d) (stpsV s.x) (vI e)) ?_
 simp only [sS,if_true,if_false,reduceCtorEq,agS0,c1,Fhere,List.getElem?_cons_zero,List.getElem?_cons_succ,chS,pT1,ck1I,agFail]
 by_cases he : s.e = 0
 ·simp only [he,decide_true,if_true,failM]
 ·simp only [he,decide_false,Bool.false_eq_true,if_false,failM]
end Go.Fbs
