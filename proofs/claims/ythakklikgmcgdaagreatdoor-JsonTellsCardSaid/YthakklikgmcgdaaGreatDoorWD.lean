import Derived.Test.YthakklikgmcgdaaGreatDoorWC
set_option linter.unusedSimpArgs false
set_option linter.unusedVariables false
set_option linter.unusedSectionVars false
set_option maxRecDepth 100000
namespace Go.Fbs
open Go.Proofs Go.RowKit
def tV {A:Type} (one:A→aE→Option (A×aE)) (c:UInt8):Nat→A→aE→Option (A×aE)
 | 0,_,_=>none
 | n+1,acc,p=>if p.e≠0 then some (acc,p) else
   match one acc (aF p) with
   | none=>none
   | some (acc',p2) =>
    if (aF p2).e≠0 then some (acc',aF p2)
    else if dU (aF p2)≠44 then some (acc',(aV (aF p2) c).2)
    else tV one c n acc' { aF p2 with a:=(aF p2).a+1 }
def jW {A:Type} (one:A→aE→Option (A×aE)) (c:UInt8) (n:Nat) (acc:A) (p:aE):Option (A×aE) :=
 if p.d=20 then some (acc,aU p p.a 10) else
  let p1:=aF { p with d:=p.d+1,a:=p.a+1 }
  if dU p1=c then some (acc,{ p1 with a:=p1.a+1,d:=p1.d - 1 })
  else match tV one c n acc p1 with
   | none=>none
   | some (acc',p2)=>some (acc',{ p2 with d:=p2.d - 1 })
structure aFb {A:Type} (one:A→aE→Option (A×aE)) (g:Nat) (caps:Array Value) (B:Nat) (Inv:World→A→Prop):Prop where
 aO:∀ acc p acc' p',aZ p→one acc p=some (acc',p')→aZ p'
 cA:∀ acc p acc' p',aZ p→one acc p=some (acc',p')→p'.d=p.d∧p'.s=p.s
 inv:∀ W W' acc,fN W W' B→Inv W acc→Inv W' acc
 call:∀ W acc p acc' p',aZ p→one acc p=some (acc',p')→dQ W B p→Inv W acc →
  Calls Tryz.prog g caps W fun e W'=>e = .returned (.tuple #[])∧dQ W' B p'∧Inv W' acc'
theorem jD {w : World} {B : Nat} {p : aE} (h : dQ w B p) : w.cell? ⟨B,0,none⟩ = some (.string ⟨⟨p.s⟩⟩) ∧ w.cell? ⟨B,1,none⟩ = some (.int .i64 p.a) ∧ w.cell? ⟨B,2,none⟩ = some (.int .i64 p.d) ∧ w.cell? ⟨B,3,none⟩ = some (.int .i64 p.e) ∧ w.cell? ⟨B,4,none⟩ = some (.int .i64 p.b) ∧ ∀ o,w.frozen? ⟨B,o,none⟩ = false:=by
 obtain ⟨⟨E,h⟩,_⟩:=h
 exact ⟨by rw [Lib.cell_of_heap h]; rfl,by rw [Lib.cell_of_heap h]; rfl,by rw [Lib.cell_of_heap h]; rfl,by rw [Lib.cell_of_heap h]; rfl,by rw [Lib.cell_of_heap h]; rfl,fun o=>Lib.frozen_of_heap h o⟩
theorem a8g {w:World} {B o:Nat} {v:Value} : fN w (w.setCell ⟨B,o,none⟩ v) B:=⟨rfl,rfl,by simp [World.setCell],fun b _ hn=>by
 show (w.heap.modify B _)[b]? = _
 rw [Array.getElem?_modify,if_neg (by omega)]⟩
theorem a6s {w:World} {B:Nat} {p:aE} (h:dQ w B p) :
  (∀ x,dQ (w.setCell ⟨B,1,none⟩ (.int .i64 x)) B { p with a:=x } ∧ fN w (w.setCell ⟨B,1,none⟩ (.int .i64 x)) B) ∧
  (∀ x,dQ (w.setCell ⟨B,2,none⟩ (.int .i64 x)) B { p with d:=x } ∧ fN w (w.setCell ⟨B,2,none⟩ (.int .i64 x)) B):=by
 obtain ⟨⟨E,h⟩,hT⟩:=h
 refine ⟨fun x=>⟨⟨⟨E,?_⟩,hT.only a8g⟩,a8g⟩,fun x=>⟨⟨⟨E,?_⟩,hT.only a8g⟩,a8g⟩⟩
 ·simp [World.setCell,Array.getElem?_modify,h,a3r]
 ·simp [World.setCell,Array.getElem?_modify,h,a3r]
set_option maxHeartbeats 3200000 in
theorem aQl {A:Type} {one:A→aE→Option (A×aE)} {g:Nat} {caps:Array Value} {B:Nat} {Inv:World→A→Prop} (hone:aFb one g caps B Inv) (eg:∀ args w,(callFunc g args).run Tryz.prog w = .ok (.enter g args) w)
  {c:UInt8} (hc:c≠0) {n:Nat} {acc:A} {p:aE} {r:A×aE} (hr:tV one c n acc p=some r) (hd:aZ p) (w:World) (hw:dQ w B p) (hi:Inv w acc) :
  Calls Tryz.prog 65 #[.pointer (some ⟨B,0,none⟩),.int .u8 c.toNat,.func (.func g) #[] caps] w fun e w'=>e = .returned (.tuple #[])∧dQ w' B r.2∧Inv w' r.1∧aZ r.2:=by
 go_enter Tryz.func65,Tryz.ntmps65
 go_wp2
 go_loopg [6] n (fun gg _ wr=>∃ acc p,tV one c gg acc p=some r∧aZ p∧dQ wr B p∧Inv wr acc)
 case atStart=>exact ⟨acc,p,hr,hd,hw,hi⟩
 case round =>
  obtain ⟨acc,p,hr,hd,hw,hi⟩:=hrel
  cases gk with
  | zero=>cases hr
  | succ m =>
   rw [tV] at hr
   obtain ⟨c0,c1,c2,c3,c4,cf⟩:=jD hw
   by_cases he:p.e=0
   ·rw [if_neg (by simp [he])] at hr
    rw [he] at c3
    have hsk:=lN hd wr B hw
    have hd1:=iY hd
    cases ho:one acc (aF p) with
    | none=>rw [ho] at hr; cases hr
    | some q =>
     obtain ⟨acc',p2⟩:=q
     rw [ho] at hr
     dsimp only at hr
     have hd2:=hone.aO _ _ _ _ hd1 ho
     have hd3:=iY hd2
     by_cases he2:(aF p2).e=0
     ·rw [if_neg (by simp [he2])] at hr
      have hhr:=aE9 hd3
      by_cases hh:dU (aF p2)=44
      ·rw [if_neg (by simp [hh])] at hr
       rw [hh] at hhr
       have hlt:=qO hd3 (by rw [hh]; decide)
       have hwr:IntKind.i64.wrap ((aF p2).a+1)=(aF p2).a+1:=dN (by have:=hd3.2.1; omega) (by have:=hd3.1; unfold jS at this; omega)
       have hd4:aZ { aF p2 with a:=(aF p2).a+1 }:=⟨hd3.1,by show 0≤(aF p2).a+1; have:=hd3.2.1; omega,by show (aF p2).a+1≤((aF p2).s.length:Int); omega⟩
       go_wp2_with (first
       | (go_at_call 16; refine hsk.mono ?_; rintro _ W1 ⟨rfl,h1,o1⟩; have hcl:=hone.call W1 _ _ _ _ hd1 ho h1 (hone.inv _ _ _ o1 hi))
       | (go_at_fn g; refine hcl.mono ?_; rintro _ W2 ⟨rfl,h2,i2⟩; have hsk2:=lN hd2 W2 B h2)
       | (go_at_call 16; refine hsk2.mono ?_; rintro _ W3 ⟨rfl,h3,o3⟩; obtain ⟨d0,d1,d2,d3,d4,df⟩:=jD h3; rw [he2] at d3; have hhc:=hhr W3 B h3)
       | (go_at_call 30; refine hhc.mono ?_; rintro _ W4 ⟨rfl,h4,o4⟩; obtain ⟨b0,b1,b2,b3,b4,bf⟩:=jD h4; have bf1:=bf 1))
       obtain ⟨k1,k2⟩:=(a6s h4).1 ((aF p2).a+1)
       go_roundg m
       case measure=>omega
       case rel=>exact ⟨acc',_,hr,hd4,k1,hone.inv _ _ _ ((o3.trans o4).trans k2) i2⟩
      ·rw [if_pos hh] at hr
       have hne:=yR hd3 c
       have hb44:((dU (aF p2)).toNat:Int)≠44:=fun h=>hh (UInt8.toNat_inj.1 (by simpa using (Int.ofNat.inj h)))
       have hb44':(((dU (aF p2)).toNat:Int) == 44)=false:=by simpa using hb44
       go_wp2_with (first
       | (go_at_call 16; refine hsk.mono ?_; rintro _ W1 ⟨rfl,h1,o1⟩; have hcl:=hone.call W1 _ _ _ _ hd1 ho h1 (hone.inv _ _ _ o1 hi))
       | (go_at_fn g; refine hcl.mono ?_; rintro _ W2 ⟨rfl,h2,i2⟩; have hsk2:=lN hd2 W2 B h2)
       | (go_at_call 16; refine hsk2.mono ?_; rintro _ W3 ⟨rfl,h3,o3⟩; obtain ⟨d0,d1,d2,d3,d4,df⟩:=jD h3; rw [he2] at d3; have hhc:=hhr W3 B h3)
       | (go_at_call 30; refine hhc.mono ?_; rintro _ W4 ⟨rfl,h4,o4⟩)
       | (go_at_call 55; refine (hne W4 B h4).mono ?_; rintro _ W5 ⟨rfl,h5,o5⟩))
       simp only [Option.some.injEq] at hr
       rw [← hr]
       exact ⟨rfl,.tuple #[],by kernel_rfl,rfl,h5,hone.inv _ _ _ ((o3.trans o4).trans o5) i2,a0j hd3 c hc⟩
     ·rw [if_pos he2] at hr
      go_wp2_with (first
       | (go_at_call 16; refine hsk.mono ?_; rintro _ W1 ⟨rfl,h1,o1⟩; have hcl:=hone.call W1 _ _ _ _ hd1 ho h1 (hone.inv _ _ _ o1 hi))
       | (go_at_fn g; refine hcl.mono ?_; rintro _ W2 ⟨rfl,h2,i2⟩; have hsk2:=lN hd2 W2 B h2)
       | (go_at_call 16; refine hsk2.mono ?_; rintro _ W3 ⟨rfl,h3,o3⟩; obtain ⟨d0,d1,d2,d3,d4,df⟩:=jD h3))
      simp only [Option.some.injEq] at hr
      rw [← hr]
      exact ⟨rfl,.tuple #[],by kernel_rfl,rfl,h3,hone.inv _ _ _ o3 i2,hd3⟩
   ·rw [if_pos he] at hr
    simp only [Option.some.injEq] at hr
    have he':(p.e == 0)=false:=by simpa using he
    go_wp2
    rw [← hr]
    exact ⟨rfl,.tuple #[],by kernel_rfl,rfl,hw,hi,hd⟩
theorem aSu (p:aE) (c:UInt8):(aV p c).2.d=p.d∧(aV p c).2.s=p.s:=by
 unfold aV aU
 split
 ·split <;> exact ⟨rfl,rfl⟩
 ·exact ⟨rfl,rfl⟩
theorem aHz {A:Type} {one:A→aE→Option (A×aE)} {g:Nat} {caps:Array Value} {B:Nat} {Inv:World→A→Prop} (hone:aFb one g caps B Inv) {c:UInt8} : ∀ {n:Nat} {acc:A} {p:aE} {r:A×aE},aZ p→tV one c n acc p=some r→r.2.d=p.d∧r.2.s=p.s
 | 0,_,_,_,_,h=>by cases h
 | n+1,acc,p,r,hd,h=>by
  rw [tV] at h
  split at h
  ·cases h; exact ⟨rfl,rfl⟩
  ·split at h
   ·cases h
   ·rename_i acc' p2 ho
    have hk:=hone.cA _ _ _ _ (iY hd) ho
    have hd2:=hone.aO _ _ _ _ (iY hd) ho
    split at h
    ·cases h; exact hk
    ·split at h
     ·cases h
      have:=aSu (aF p2) c
      exact ⟨this.1.trans hk.1,this.2.trans hk.2⟩
     ·rename_i hh
      have hh:dU (aF p2)=44:=by simpa using hh
      have hd3:=iY hd2
      have hlt:=qO hd3 (by rw [hh]; decide)
      have hd4:aZ { aF p2 with a:=(aF p2).a+1 }:=⟨hd3.1,by show 0≤(aF p2).a+1; have:=hd3.2.1; omega,by show (aF p2).a+1≤((aF p2).s.length:Int); omega⟩
      have:=aHz hone hd4 h
      exact ⟨this.1.trans hk.1,this.2.trans hk.2⟩
set_option maxHeartbeats 3200000 in
theorem aC1 {A:Type} {one:A→aE→Option (A×aE)} {g:Nat} {caps:Array Value} {B:Nat} {Inv:World→A→Prop} (hone:aFb one g caps B Inv) (eg:∀ args w,(callFunc g args).run Tryz.prog w = .ok (.enter g args) w)
  {c:UInt8} (hc:c≠0) {n:Nat} {acc:A} {p:aE} {r:A×aE} (hr:jW one c n acc p=some r) (hd:aZ p) (ha:p.a < p.s.length) (hp:0≤p.d∧p.d≤20) (w:World) (hw:dQ w B p) (hi:Inv w acc) :
  Calls Tryz.prog 53 #[.pointer (some ⟨B,0,none⟩),.int .u8 c.toNat,.func (.func g) #[] caps] w fun e w'=>e = .returned (.tuple #[])∧dQ w' B r.2∧Inv w' r.1∧aZ r.2∧r.2.d=p.d∧r.2.s=p.s:=by
 obtain ⟨c0,c1,c2,c3,c4,cf⟩:=jD hw
 have cf1:=cf 1
 have cf2:=cf 2
 unfold jW at hr
 go_enter Tryz.func53,Tryz.ntmps53
 by_cases h20:p.d=20
 ·rw [if_pos h20] at hr
  rw [h20] at c2
  have hf:=aFa p p.a 10 w B hw
  simp only [Option.some.injEq] at hr
  go_wp2_with (go_at_call 18; refine hf.mono ?_; rintro _ W1 ⟨rfl,h1,o1⟩)
  rw [← hr]
  refine ⟨rfl,.tuple #[],by kernel_rfl,rfl,h1,hone.inv _ _ _ o1 hi,x8 hd _ _,?_⟩
  show (aU p p.a 10).d=p.d∧(aU p p.a 10).s=p.s
  unfold aU
  split <;> exact ⟨rfl,rfl⟩
 ·rw [if_neg h20] at hr
  have b20:(p.d == 20)=false:=by simpa using h20
  have hw1:IntKind.i64.wrap (p.d+1)=p.d+1:=dN (by omega) (by omega)
  have hw2:IntKind.i64.wrap (p.a+1)=p.a+1:=dN (by have:=hd.2.1; omega) (by have:=hd.1; unfold jS at this; omega)
  have hd1:aZ { p with d:=p.d+1,a:=p.a+1 }:=⟨hd.1,by show 0≤p.a+1; have:=hd.2.1; omega,by show p.a+1≤(p.s.length:Int); omega⟩
  obtain ⟨k1,o1⟩:=(a6s hw).2 (p.d+1)
  obtain ⟨k2,o2⟩:=(a6s k1).1 (p.a+1)
  have hsk:=lN hd1 _ B k2
  have hd2:=iY hd1
  have hhr:=aE9 hd2
  have hdeep:(aF { p with d:=p.d+1,a:=p.a+1 }).d=p.d+1:=rfl
  have hsame:(aF { p with d:=p.d+1,a:=p.a+1 }).s=p.s:=rfl
  generalize aF { p with d:=p.d+1,a:=p.a+1 } = p1 at hr hsk hd2 hhr hdeep hsame
  dsimp only at hr
  have hw4:IntKind.i64.wrap (p.d+1 - 1)=p.d+1 - 1:=dN (by omega) (by omega)
  have hw5:IntKind.i64.wrap p.d=p.d:=dN (by omega) (by omega)
  have hdd:p.d+1 - 1=p.d:=by omega
  by_cases hh:dU p1=c
  ·rw [if_pos hh] at hr
   simp only [Option.some.injEq] at hr
   rw [hh] at hhr
   have hlt:=qO hd2 (by rw [hh]; exact hc)
   have hw3:IntKind.i64.wrap (p1.a+1)=p1.a+1:=dN (by have:=hd2.2.1; omega) (by have:=hd2.1; unfold jS at this; omega)
   go_wp2_with (first
    | (go_at_call 16; refine hsk.mono ?_; rintro _ W1 ⟨rfl,h1,q1⟩; have hhc:=hhr W1 B h1)
    | (go_at_call 30; refine hhc.mono ?_; rintro _ W2 ⟨rfl,h2,q2⟩; obtain ⟨d0,d1,d2,d3,d4,df⟩:=jD h2; rw [hdeep] at d2; have df1:=df 1; have df2:=df 2))
   obtain ⟨k3,o3⟩:=(a6s h2).1 (p1.a+1)
   obtain ⟨k4,o4⟩:=(a6s k3).2 (p1.d - 1)
   have e1:p1.d - 1=p.d:=by omega
   rw [e1] at k4 o4 hr
   rw [← hr]
   exact ⟨rfl,.tuple #[],by kernel_rfl,rfl,k4,hone.inv _ _ _ (((((o1.trans o2).trans q1).trans q2).trans o3).trans o4) hi,⟨hd2.1,by show 0≤p1.a+1; have:=hd2.2.1; omega,by show p1.a+1≤(p1.s.length:Int); omega⟩,rfl,hsame⟩
  ·rw [if_neg hh] at hr
   have hb:((dU p1).toNat:Int)≠(c.toNat:Int):=fun h=>hh (UInt8.toNat_inj.1 (by omega))
   have hb':(((dU p1).toNat:Int) == (c.toNat:Int))=false:=by simpa using hb
   cases hm:tV one c n acc p1 with
   | none=>rw [hm] at hr; cases hr
   | some q =>
    rw [hm] at hr
    simp only [Option.some.injEq] at hr
    have hk:=aHz hone hd2 hm
    go_wp2_with (first
     | (go_at_call 16; refine hsk.mono ?_; rintro _ W1 ⟨rfl,h1,q1⟩; have hhc:=hhr W1 B h1)
     | (go_at_call 30; refine hhc.mono ?_; rintro _ W2 ⟨rfl,h2,q2⟩; have hmc:=aQl hone eg hc hm hd2 W2 h2 (hone.inv _ _ _ (((o1.trans o2).trans q1).trans q2) hi))
     | (go_at_call 65; refine hmc.mono ?_; rintro _ W3 ⟨rfl,h3,i3,hd3⟩; obtain ⟨d0,d1,d2,d3,d4,df⟩:=jD h3; rw [hk.1,hdeep] at d2; have df2:=df 2))
    obtain ⟨k4,o4⟩:=(a6s h3).2 (q.2.d - 1)
    have e1:q.2.d - 1=p.d:=by rw [hk.1]; omega
    rw [e1] at k4 o4 hr
    rw [← hr]
    exact ⟨rfl,.tuple #[],by kernel_rfl,rfl,k4,hone.inv _ _ _ o4 i3,hd3,rfl,hk.2.trans hsame⟩
end Go.Fbs
