import Derived.Test.YtpdnpfdbjoaemaaGreatDoorQA
set_option maxRecDepth 100000
namespace Go.Fbs
structure Frm where
 kind : Nat
 names : Nat
 num : Bool
 least : Nat
 most : Nat
structure Fct where
 kind : Int
 a : List UInt8
 b : List UInt8
 c : List UInt8
 n : Int
 l : List (List UInt8)
 at_ : Nat
def fct0 : Fct:=⟨0,[],[],[],0,[],0⟩
def kwM : Nat → List UInt8
 | 1=>[117,115,101,114]
 | 2=>[114,111,108,101]
 | 3=>[105,110,104,101,114,105,116]
 | 4=>[97,115,115,105,103,110]
 | 5=>[103,114,97,110,116]
 | 6=>[115,115,100]
 | 7=>[100,115,100]
 | 8=>[115,101,115,115,105,111,110]
 | _=>[]
def frmK : Nat → Frm
 | 1=>⟨1,1,false,1,1⟩
 | 2=>⟨2,1,false,1,1⟩
 | 3=>⟨3,2,false,2,2⟩
 | 4=>⟨4,2,false,2,2⟩
 | 5=>⟨5,3,false,3,3⟩
 | 6=>⟨6,1,true,4,1073741824⟩
 | 7=>⟨7,1,true,4,1073741824⟩
 | 8=>⟨8,2,false,2,1073741824⟩
 | _=>⟨0,0,false,0,0⟩
def formM (w : List UInt8) : Option Frm :=
 if w = kwM 1 then some (frmK 1) else if w = kwM 2 then some (frmK 2) else if w = kwM 3 then some (frmK 3) else if w = kwM 4 then some (frmK 4) else
 if w = kwM 5 then some (frmK 5) else if w = kwM 6 then some (frmK 6) else if w = kwM 7 then some (frmK 7) else if w = kwM 8 then some (frmK 8) else none
def digC (c : UInt8) : Bool:=decide (48 ≤ c.toNat) && decide (c.toNat ≤ 57)
def numM : List UInt8 → Option Int
 | [c]=>if c ≠ 48 ∧ digC c = true then some (c.toNat - 48 : Int) else none
 | [c,d]=>if c ≠ 48 ∧ digC c = true ∧ digC d = true then some ((c.toNat - 48 : Int) * 10 + (d.toNat - 48 : Int)) else none
 | _=>none
def itoM (n : Int) : List UInt8:=if n < 10 then [UInt8.ofNat (48 + n.toNat)] else if n < 100 then [UInt8.ofNat (48 + n.toNat / 10),UInt8.ofNat (48 + n.toNat % 10)] else [UInt8.ofNat (48 + n.toNat / 100),UInt8.ofNat (48 + n.toNat / 10 % 10),UInt8.ofNat (48 + n.toNat % 10)]
def alnB (c : Int) : Bool:=decide (97 ≤ c) && decide (c ≤ 122) || decide (48 ≤ c) && decide (c ≤ 57)
def nameB (c : Int) : Bool:=alnB c || decide (c = 95) || decide (c = 45) || decide (c = 46)
def nameD (l : List UInt8) : Bool:=decide (1 ≤ l.length) && decide (l.length ≤ 30) && alnB (l.getD 0 0).toNat && l.all (fun c=>nameB c.toNat)
def fillM (f : Frm) : Nat → List Wrd → Fct → Fct × Nat × Int
 | _,[],o=>(o,0,0)
 | i,w :: ws,o =>
  if f.num = true ∧ i = f.names then
   match numM w.1 with
   | some n=>fillM f (i + 1) ws { o with n:=n }
   | none=>(o,w.2,9)
  else if nameD w.1 = false then (o,w.2,15)
  else if f.names ≤ i then fillM f (i + 1) ws { o with l:=o.l ++ [w.1] }
  else if i = 0 then fillM f (i + 1) ws { o with a:=w.1 }
  else if i = 1 then fillM f (i + 1) ws { o with b:=w.1 }
  else fillM f (i + 1) ws { o with c:=w.1 }
def factM (l : Lin) : Fct × Nat × Int :=
 match l.2 with
 | []=>(fct0,l.1,9)
 | w :: ws =>
  match formM w.1 with
  | none=>(fct0,w.2,9)
  | some f=>if ws.length < f.least ∨ f.most < ws.length then (fct0,w.2,9) else
   match fillM f 0 ws { fct0 with kind:=f.kind,at_:=l.1 } with
   | (o,_,0)=>(o,0,0)
   | (_,k,e)=>(fct0,k,e)
def tailW (f : Frm) (o : Fct) : List (List UInt8):=(if f.num = true then [itoM o.n] else []) ++ o.l
def wordsW (o : Fct) : List (List UInt8):=kwM o.kind.toNat :: (([o.a,o.b,o.c].take (frmK o.kind.toNat).names) ++ tailW (frmK o.kind.toNat) o)
theorem ito_num {w : List UInt8} {n : Int} (h : numM w = some n) : itoM n = w:=by
 unfold numM at h
 split at h
 ·rename_i c
  split at h
  ·rename_i hc
   simp only [Option.some.injEq] at h
   obtain ⟨h0,hd⟩:=hc
   simp only [digC,Bool.and_eq_true,decide_eq_true_eq] at hd
   unfold itoM
   rw [if_pos (by omega)]
   have : 48 + n.toNat = c.toNat:=by omega
   rw [this]; simp
  ·cases h
 ·rename_i c d
  split at h
  ·rename_i hc
   simp only [Option.some.injEq] at h
   obtain ⟨h0,hd,he⟩:=hc
   simp only [digC,Bool.and_eq_true,decide_eq_true_eq] at hd he
   have hc48 : c.toNat ≠ 48:=fun e=>h0 (by
    have : c = UInt8.ofNat 48:=by rw [← e]; simp
    exact this)
   unfold itoM
   rw [if_neg (by omega),if_pos (by omega)]
   have h1 : 48 + n.toNat / 10 = c.toNat:=by omega
   have h2 : 48 + n.toNat % 10 = d.toNat:=by omega
   rw [h1,h2]; simp
  ·cases h
 ·cases h
def preW (f : Frm) (i : Nat) (o : Fct) : List (List UInt8):=if i ≤ f.names then [o.a,o.b,o.c].take i else [o.a,o.b,o.c].take f.names ++ tailW f o
def emptyL (f : Frm) (i : Nat) (o : Fct) : Prop:=i ≤ f.names + (if f.num = true then 1 else 0) → o.l = []
theorem fill_words (f : Frm) (hf : f.names ≤ 3) : ∀ (ws : List Wrd) (i : Nat) (o o' : Fct) (k : Nat),emptyL f i o → fillM f i ws o = (o',k,0) →
  preW f (i + ws.length) o' = preW f i o ++ ws.map (·.1) ∧ emptyL f (i + ws.length) o' ∧ o'.kind = o.kind ∧ o'.at_ = o.at_
 | [],i,o,o',k,hE,h=>by
  unfold fillM at h
  simp only [Prod.mk.injEq] at h
  obtain ⟨rfl,_,_⟩:=h
  exact ⟨by simp,hE,rfl,rfl⟩
 | w :: ws,i,o,o',k,hE,h=>by
  have step : ∀ o1 : Fct,fillM f (i + 1) ws o1 = (o',k,0) → emptyL f (i + 1) o1 → preW f (i + 1) o1 = preW f i o ++ [w.1] → o1.kind = o.kind → o1.at_ = o.at_ →
    preW f (i + (w :: ws).length) o' = preW f i o ++ (w :: ws).map (·.1) ∧ emptyL f (i + (w :: ws).length) o' ∧ o'.kind = o.kind ∧ o'.at_ = o.at_:=fun o1 h1 h2 h3 h4 h5=>by
   obtain ⟨g1,g2,g3,g4⟩:=fill_words f hf ws (i + 1) o1 o' k h2 h1
   have e : i + (w :: ws).length = i + 1 + ws.length:=by rw [List.length_cons]; omega
   rw [e]
   refine ⟨?_,g2,g3.trans h4,g4.trans h5⟩
   rw [g1,h3,List.map_cons,List.append_assoc]; rfl
  unfold fillM at h
  split at h
  ·rename_i hn
   split at h
   ·rename_i n hn2
    refine step _ h (fun _=>hE (by rw [if_pos hn.1]; omega)) ?_ rfl rfl
    have hl:=hE (by rw [if_pos hn.1]; omega)
    unfold preW
    rw [if_neg (by omega),if_pos (by omega),hn.2]
    simp only [tailW,hn.1,if_true,hl,List.append_nil,ito_num hn2]
   ·simp at h
  ·rename_i hn
   split at h
   ·simp at h
   ·split at h
    ·rename_i hk
     refine step _ h (fun hle=>?_) ?_ rfl rfl
     ·exfalso
      split at hle
      ·rename_i h9
       exact hn ⟨h9,by omega⟩
      ·omega
     ·unfold preW
      rw [if_neg (by omega)]
      by_cases he : i ≤ f.names
      ·have he2 : i = f.names:=by omega
       have hnum : ¬ f.num = true:=fun h9=>hn ⟨h9,he2⟩
       have hl:=hE (by omega)
       rw [if_pos he,he2]
       simp [tailW,hnum,hl]
      ·rw [if_neg he]
       simp [tailW,List.append_assoc]
    ·rename_i hk
     have hE' : o.l = []:=hE (by omega)
     split at h
     ·rename_i h0
      refine step _ h (fun _=>hE') ?_ rfl rfl
      subst h0
      unfold preW
      rw [if_pos (by omega),if_pos (by omega)]
      rfl
     ·split at h
      ·rename_i h1
       refine step _ h (fun _=>hE') ?_ rfl rfl
       subst h1
       unfold preW
       rw [if_pos (by omega),if_pos (by omega)]
       rfl
      ·refine step _ h (fun _=>hE') ?_ rfl rfl
       have h2 : i = 2:=by omega
       subst h2
       unfold preW
       rw [if_pos (by omega),if_pos (by omega)]
       rfl
theorem form_inv {w : List UInt8} {f : Frm} (h : formM w = some f) : ∃ k,1 ≤ k ∧ k ≤ 8 ∧ w = kwM k ∧ f = frmK k:=by
 unfold formM at h
 split at h
 ·rename_i e; cases h; exact ⟨1,by omega,by omega,e,rfl⟩
 split at h
 ·rename_i e; cases h; exact ⟨2,by omega,by omega,e,rfl⟩
 split at h
 ·rename_i e; cases h; exact ⟨3,by omega,by omega,e,rfl⟩
 split at h
 ·rename_i e; cases h; exact ⟨4,by omega,by omega,e,rfl⟩
 split at h
 ·rename_i e; cases h; exact ⟨5,by omega,by omega,e,rfl⟩
 split at h
 ·rename_i e; cases h; exact ⟨6,by omega,by omega,e,rfl⟩
 split at h
 ·rename_i e; cases h; exact ⟨7,by omega,by omega,e,rfl⟩
 split at h
 ·rename_i e; cases h; exact ⟨8,by omega,by omega,e,rfl⟩
 ·cases h
theorem frm_small {k : Nat} (h1 : 1 ≤ k) (h8 : k ≤ 8) : (frmK k).kind = k ∧ (frmK k).names ≤ 3 ∧ (frmK k).names + (if (frmK k).num = true then 1 else 0) ≤ (frmK k).least:=by
 have : k = 1 ∨ k = 2 ∨ k = 3 ∨ k = 4 ∨ k = 5 ∨ k = 6 ∨ k = 7 ∨ k = 8:=by omega
 rcases this with rfl | rfl | rfl | rfl | rfl | rfl | rfl | rfl <;> decide
theorem fact_words {l : Lin} {o : Fct} {k : Nat} (h : factM l = (o,k,0)) : wordsW o = l.2.map (·.1) ∧ o.at_ = l.1:=by
 unfold factM at h
 split at h
 ·simp at h
 ·rename_i w ws hl
  split at h
  ·simp at h
  ·rename_i f hf
   obtain ⟨j,j1,j8,e1,rfl⟩:=form_inv hf
   obtain ⟨s1,s2,s3⟩:=frm_small j1 j8
   split at h
   ·simp at h
   ·rename_i hlen
    split at h
    ·rename_i o' k' hfill
     simp only [Prod.mk.injEq] at h
     obtain ⟨rfl,_,_⟩:=h
     obtain ⟨g1,g2,g3,g4⟩:=fill_words (frmK j) s2 ws 0 _ o' k' (fun _=>rfl) hfill
     rw [Nat.zero_add] at g1 g2
     have hk : o'.kind.toNat = j:=by rw [g3]; simp [s1]
     refine ⟨?_,g4⟩
     rw [hl,List.map_cons,e1]
     unfold wordsW
     rw [hk]
     congr 1
     have e0 : preW (frmK j) 0 { fct0 with kind:=↑(frmK j).kind,at_:=l.1 } = []:=by unfold preW; rw [if_pos (Nat.zero_le _)]; rfl
     rw [e0,List.nil_append] at g1
     rw [← g1]
     unfold preW
     by_cases he : ws.length ≤ (frmK j).names
     ·have hnum : ¬ (frmK j).num = true:=fun h9=>by
       rw [if_pos h9] at s3
       omega
      have he2 : ws.length = (frmK j).names:=by
       rw [if_neg hnum] at s3
       omega
      have hl2:=g2 (by omega)
      rw [if_pos he,he2]
      simp [tailW,hnum,hl2]
     ·rw [if_neg he]
    ·simp at h
     rename_i e _ _
     exact absurd h.2.2 (by assumption)
end Go.Fbs
