import Derived.Test.YthakklikgmcgdaaGreatDoorXE
set_option linter.unusedSimpArgs false
set_option linter.unusedVariables false
set_option linter.unusedSectionVars false
set_option maxRecDepth 100000
namespace Go.Fbs
open Go.Proofs Go.RowKit
theorem b33:∀ args w,(callFunc 40 args).run Tryz.prog w = .ok (.enter 40 args) w:=enters_of Tryz.func40 (by kernel_rfl) rfl
theorem b34:∀ args w,(callFunc 41 args).run Tryz.prog w = .ok (.enter 41 args) w:=enters_of Tryz.func41 (by kernel_rfl) rfl
def fL (n:Nat) (ls:List V) (i:Nat) (m:List UInt8):Option (List UInt8):=(ls[i]?).bind (mY n m)
def fO (n : Nat) (ks ls : List V) (i : Nat) (m : List UInt8) : Option (List UInt8):=match ks[i]?,ls[i]? with
 | some (.str key),some e=>if m.length≤500000000∧key.length≤50000000∧(m++iQ key).length≤500000000 then mY n (m++iQ key++[58]) e else none
 | _,_=>none
theorem uP (n:Nat) (l:List UInt8) (k:Int) (t:List UInt8) (ks ls:List V):mY (n+1) l (jn k t ks ls) =
  if 200000 < l.length then some l
  else if t.length≤50000000 then
   if k=1 then some (l++[110,117,108,108])
   else if k=2 then some (l++[102,97,108,115,101])
   else if k=3 then some (l++[116,114,117,101])
   else if k=4 then some (l++t)
   else if k=5 then some (l++iQ t)
   else if k=6 then joM (fL n ls) 91 93 ls.length l
   else if k=7 then joM (fO n ks ls) 123 125 (min ks.length ls.length) l
   else some l
  else none:=rfl
theorem aTh {n:Nat} (hT:a1k n) (hn:n≤20) {κ:Ctx} {B b xb xj xd:Nat} {k:Int} {t:List UInt8} {ks ls:List V} {a2:Option Addr} {n2 z2:Nat} {a3:Option Addr} {n3 z3:Nat} (hκ:∀ c,B≤c→κ.hw c=0) (hp:(jn k t ks ls).plain=true) (hne:xb≠b∧xj≠b∧xd≠b) :
  aWn (fL n ls) 40 #[.pointer (some ⟨xb,0,none⟩),.pointer (some ⟨xj,0,none⟩),.pointer (some ⟨xd,0,none⟩)] B b ls.length fun W=>aA7 κ B b xb xj xd k t ks ls (20 - n) a2 n2 z2 a3 n3 z3 W where
 inv:=fun W W' o h=>h.cA hκ hp hne o
 call:=fun W i l l' hi hf hb hc=>by
  obtain ⟨e,he,ht⟩:=Option.bind_eq_some_iff.1 hf
  exact aWo hT hn hκ hp hc he ht hb
theorem aQx {n:Nat} (hT:a1k n) (hn:n≤20) {κ:Ctx} {B b xb xj xd:Nat} {k:Int} {t:List UInt8} {ks ls:List V} {a2:Option Addr} {n2 z2:Nat} {a3:Option Addr} {n3 z3:Nat} (hκ:∀ c,B≤c→κ.hw c=0) (hp:(jn k t ks ls).plain=true) (hne:xb≠b∧xj≠b∧xd≠b) :
  aWn (fO n ks ls) 41 #[.pointer (some ⟨xb,0,none⟩),.pointer (some ⟨xj,0,none⟩),.pointer (some ⟨xd,0,none⟩)] B b (min ks.length ls.length) fun W=>aA7 κ B b xb xj xd k t ks ls (20 - n) a2 n2 z2 a3 n3 z3 W where
 inv:=fun W W' o h=>h.cA hκ hp hne o
 call:=fun W i l l' hi hf hb hc=>by
  unfold fO at hf
  split at hf
  ·rename_i key e hk he
   simp only [Option.ite_none_right_eq_some] at hf
   exact aTg hT hn hκ hp hne hc hk he hf.1.1 hf.1.2.1 hf.1.2.2 hf.2 hb
  ·cases hf
theorem aGy {κ:Ctx} {W:World} {es:List V} {x:Value} (r:Rep κ W.heap (.sl .ro es) x):∃ oa oc,x = .slice oa es.length oc:=by
 rcases rep_sl (w:=W) r with ⟨rfl,rfl,_⟩ | ⟨b,off,cap,sz,xs,_,_,_,_,_,rfl⟩
 ·exact ⟨none,0,rfl⟩
 ·exact ⟨_,_,rfl⟩
set_option maxHeartbeats 3200000 in
theorem aTi {n:Nat} (hn:n≤20) (hT:a1k n):a1k (n+1):=by
 intro v l r ht hp κ B b W x hκ h hx
 obtain ⟨k,t,ks,ls,rfl⟩:=yV ht
 obtain ⟨a2,n2,z2,a3,n3,z3,rfl,hr⟩:=aAx (h:=W) hx
 rw [uP] at ht
 have hsz:=h.size
 have hd1:(21:Int) - ((n+1:Nat):Int)=20 - n:=by omega
 have hdle:¬ (20:Int) < 20 - (n:Int):=by omega
 rw [hd1]
 obtain ⟨W3,hW3⟩:∃ W3,W3=((W.alloc (.cells #[.pointer (some ⟨b,0,none⟩)] 53)).alloc (.cells #[.int .i64 k,.string ⟨⟨t⟩⟩,.slice a2 n2 z2,.slice a3 n3 z3] 27)).alloc (.cells #[.int .i64 (20 - n)] 3):=⟨_,rfl⟩
 have hb3:Bq B b l W3:=by rw [hW3]; exact ((h.alloc _).alloc _).alloc _
 have hw3:Wr B b W W3:=by rw [hW3]; exact ((Wr.alloc (by omega) _).trans (Wr.alloc (by simp; omega) _)).trans (Wr.alloc (by simp; omega) _)
 have z1:∀ o,(W.alloc o).heap.size=W.heap.size+1:=fun o=>by simp
 have z2':∀ o o',((W.alloc o).alloc o').heap.size=W.heap.size+1+1:=fun o o'=>by simp
 have gb : W3.heap[W.heap.size]? = some (.cells #[.pointer (some ⟨b,0,none⟩)] 53 (0,0)):=by
  rw [hW3,heap_alloc_old _ _ (by rw [z2']; omega),heap_alloc_old _ _ (by rw [z1]; omega),heap_alloc_new]
 have gj : W3.heap[W.heap.size + 1]? = some (.cells #[.int .i64 k,.string ⟨⟨t⟩⟩,.slice a2 n2 z2,.slice a3 n3 z3] 27 (0,0)):=by
  rw [hW3,heap_alloc_old _ _ (by rw [z2']; omega),← z1 (.cells #[.pointer (some ⟨b,0,none⟩)] 53),heap_alloc_new]
 have gd : W3.heap[W.heap.size + 1 + 1]? = some (.cells #[.int .i64 (20 - n)] 3 (0,0)):=by
  rw [hW3,← z2' (.cells #[.pointer (some ⟨b,0,none⟩)] 53) (.cells #[.int .i64 k,.string ⟨⟨t⟩⟩,.slice a2 n2 z2,.slice a3 n3 z3] 27),heap_alloc_new]
 have hc:aA7 κ B b W.heap.size (W.heap.size+1) (W.heap.size+1+1) k t ks ls (20 - n) a2 n2 z2 a3 n3 z3 W3:=⟨⟨53,gb,by decide⟩,⟨27,gj,by decide⟩,⟨3,gd,by decide⟩,aFn hκ hw3.below hr (a8s hp).1⟩
 have c0 : W3.cell? ⟨W.heap.size,0,none⟩ = some (.pointer (some ⟨b,0,none⟩)):=by rw [Lib.cell_of_heap gb]; rfl
 have j0 : W3.cell? ⟨W.heap.size + 1,0,none⟩ = some (.int .i64 k):=by rw [Lib.cell_of_heap gj]; rfl
 have j1 : W3.cell? ⟨W.heap.size + 1,1,none⟩ = some (.string ⟨⟨t⟩⟩):=by rw [Lib.cell_of_heap gj]; rfl
 have j2 : W3.cell? ⟨W.heap.size + 1,2,none⟩ = some (.slice a2 n2 z2):=by rw [Lib.cell_of_heap gj]; rfl
 have j3 : W3.cell? ⟨W.heap.size + 1,3,none⟩ = some (.slice a3 n3 z3):=by rw [Lib.cell_of_heap gj]; rfl
 have d0 : W3.cell? ⟨W.heap.size + 1 + 1,0,none⟩ = some (.int .i64 (20 - n)):=by rw [Lib.cell_of_heap gd]; rfl
 have hlen:=aTe hb3
 by_cases hbig:200000 < l.length
 ·rw [if_pos hbig] at ht
  cases ht
  have hbig':(200000:Int) < (l.length:Int):=by omega
  go_enter Tryz.func19,Tryz.ntmps19
  go_wp2_with (go_at_call 36; rw [← hW3]; refine hlen.mono ?_; rintro _ W4 ⟨rfl,rfl⟩; clear hW3)
  exact ⟨rfl,.tuple #[],by kernel_rfl,rfl,hb3,hw3⟩
 rw [if_neg hbig] at ht
 have hbig':¬ (200000:Int) < (l.length:Int):=by omega
 by_cases htl:t.length≤50000000
 case neg=>rw [if_neg htl] at ht; cases ht
 rw [if_pos htl] at ht
 clear gb gj gd
 by_cases hk1:k=1
 ·subst hk1
  simp only [Int.reduceEq,if_true,if_false] at ht
  cases ht
  have hs:=rD hb3 [110,117,108,108] (by omega) (by first | assumption | omega | (simp; done) | (simp; omega))
  go_enter Tryz.func19,Tryz.ntmps19
  go_wp2_with (first | (go_at_call 36; rw [← hW3]; refine hlen.mono ?_; rintro _ W4 ⟨rfl,rfl⟩; clear hW3) | (go_at_call 37; refine hs.mono ?_; rintro _ W5 ⟨rfl,h5,o5⟩))
  exact ⟨rfl,.tuple #[],by kernel_rfl,rfl,h5,hw3.trans o5⟩
 have nk1:(k == 1)=false:=by simpa using hk1
 rw [if_neg hk1] at ht
 by_cases hk2:k=2
 ·subst hk2
  simp only [Int.reduceEq,if_true,if_false] at ht
  cases ht
  have hs:=rD hb3 [102,97,108,115,101] (by omega) (by first | assumption | omega | (simp; done) | (simp; omega))
  go_enter Tryz.func19,Tryz.ntmps19
  go_wp2_with (first | (go_at_call 36; rw [← hW3]; refine hlen.mono ?_; rintro _ W4 ⟨rfl,rfl⟩; clear hW3) | (go_at_call 37; refine hs.mono ?_; rintro _ W5 ⟨rfl,h5,o5⟩))
  exact ⟨rfl,.tuple #[],by kernel_rfl,rfl,h5,hw3.trans o5⟩
 have nk2:(k == 2)=false:=by simpa using hk2
 rw [if_neg hk2] at ht
 by_cases hk3:k=3
 ·subst hk3
  simp only [Int.reduceEq,if_true,if_false] at ht
  cases ht
  have hs:=rD hb3 [116,114,117,101] (by omega) (by first | assumption | omega | (simp; done) | (simp; omega))
  go_enter Tryz.func19,Tryz.ntmps19
  go_wp2_with (first | (go_at_call 36; rw [← hW3]; refine hlen.mono ?_; rintro _ W4 ⟨rfl,rfl⟩; clear hW3) | (go_at_call 37; refine hs.mono ?_; rintro _ W5 ⟨rfl,h5,o5⟩))
  exact ⟨rfl,.tuple #[],by kernel_rfl,rfl,h5,hw3.trans o5⟩
 have nk3:(k == 3)=false:=by simpa using hk3
 rw [if_neg hk3] at ht
 by_cases hk4:k=4
 ·subst hk4
  simp only [Int.reduceEq,if_true,if_false] at ht
  cases ht
  have hs:=rD hb3 t (by omega) (by first | assumption | omega | (simp; done) | (simp; omega))
  go_enter Tryz.func19,Tryz.ntmps19
  go_wp2_with (first | (go_at_call 36; rw [← hW3]; refine hlen.mono ?_; rintro _ W4 ⟨rfl,rfl⟩; clear hW3) | (go_at_call 37; refine hs.mono ?_; rintro _ W5 ⟨rfl,h5,o5⟩))
  exact ⟨rfl,.tuple #[],by kernel_rfl,rfl,h5,hw3.trans o5⟩
 have nk4:(k == 4)=false:=by simpa using hk4
 rw [if_neg hk4] at ht
 by_cases hk5:k=5
 ·subst hk5
  simp only [Int.reduceEq,if_true,if_false] at ht
  cases ht
  have hs:=aA6 hb3 t (by omega) htl
  go_enter Tryz.func19,Tryz.ntmps19
  go_wp2_with (first | (go_at_call 36; rw [← hW3]; refine hlen.mono ?_; rintro _ W4 ⟨rfl,rfl⟩; clear hW3) | (go_at_call 38; refine hs.mono ?_; rintro _ W5 ⟨rfl,h5,o5⟩))
  exact ⟨rfl,.tuple #[],by kernel_rfl,rfl,h5,hw3.trans o5⟩
 have nk5:(k == 5)=false:=by simpa using hk5
 rw [if_neg hk5] at ht
 by_cases hk6:k=6
 ·subst hk6
  simp only [Int.reduceEq,if_true,if_false] at ht
  unfold joM at ht
  rw [Option.ite_none_right_eq_some] at ht
  obtain ⟨⟨_,hln⟩,ht⟩:=ht
  have hs:=aFm (aTh (a2:=a2) (n2:=n2) (z2:=z2) (a3:=a3) (n3:=n3) (z3:=z3) hT hn hκ hp ⟨by omega,by omega,by omega⟩) b33 ht (by omega) hln hb3 hc
  obtain ⟨oa,oc,hsl⟩:=aGy (hr.2 3 _ _ rfl rfl)
  cases hsl
  go_enter Tryz.func19,Tryz.ntmps19
  go_wp2_with (first | (go_at_call 36; rw [← hW3]; refine hlen.mono ?_; rintro _ W4 ⟨rfl,rfl⟩; clear hW3) | (go_at_call 39; refine hs.mono ?_; rintro _ W5 ⟨rfl,h5,o5⟩))
  exact ⟨rfl,.tuple #[],by kernel_rfl,rfl,h5,hw3.trans o5⟩
 have nk6:(k == 6)=false:=by simpa using hk6
 rw [if_neg hk6] at ht
 by_cases hk7:k=7
 ·subst hk7
  simp only [Int.reduceEq,if_true,if_false] at ht
  unfold joM at ht
  rw [Option.ite_none_right_eq_some] at ht
  obtain ⟨⟨_,hln⟩,ht⟩:=ht
  have hs:=aFm (aQx (a2:=a2) (n2:=n2) (z2:=z2) (a3:=a3) (n3:=n3) (z3:=z3) hT hn hκ hp ⟨by omega,by omega,by omega⟩) b34 ht (by omega) hln hb3 hc
  have hm:((min ks.length ls.length:Nat):Int)=min (ks.length:Int) (ls.length:Int):=by omega
  rw [hm] at hs
  clear hln hm ht
  obtain ⟨oa,oc,hsl⟩:=aGy (hr.2 3 _ _ rfl rfl)
  cases hsl
  obtain ⟨pa,pc,hsk⟩:=aGy (hr.2 2 _ _ rfl rfl)
  cases hsk
  go_enter Tryz.func19,Tryz.ntmps19
  go_wp2_with (first | (go_at_call 36; rw [← hW3]; refine hlen.mono ?_; rintro _ W4 ⟨rfl,rfl⟩; clear hW3) | (go_at_call 39; refine hs.mono ?_; rintro _ W5 ⟨rfl,h5,o5⟩))
  exact ⟨rfl,.tuple #[],by kernel_rfl,rfl,h5,hw3.trans o5⟩
 have nk7:(k == 7)=false:=by simpa using hk7
 rw [if_neg hk7] at ht
 cases ht
 go_enter Tryz.func19,Tryz.ntmps19
 go_wp2_with (go_at_call 36; rw [← hW3]; refine hlen.mono ?_; rintro _ W4 ⟨rfl,rfl⟩; clear hW3)
 exact ⟨rfl,.tuple #[],by kernel_rfl,rfl,hb3,hw3⟩
theorem aTj:a1k 0:=by
 intro v l r ht hp κ B b W x hκ h hx
 obtain ⟨k,t,ks,ls,rfl⟩:=yV ht
 obtain ⟨a2,n2,z2,a3,n3,z3,rfl,hr⟩:=aAx (h:=W) hx
 cases ht
 have hsz:=h.size
 go_enter Tryz.func19,Tryz.ntmps19
 go_wp2
 exact ⟨rfl,.tuple #[],by kernel_rfl,rfl,((h.alloc _).alloc _).alloc _,((Wr.alloc (by omega) _).trans (Wr.alloc (by simp; omega) _)).trans (Wr.alloc (by simp; omega) _)⟩
theorem aOg:∀ n:Nat,n≤21→a1k n
 | 0,_=>aTj
 | n+1,h=>aTi (by omega) (aOg n (by omega))
end Go.Fbs
