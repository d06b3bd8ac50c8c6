/- Parsing what is made of numbers, and what follows. -/
import Derived.Test.YtnmcilaebamncaaKR
set_option maxRecDepth 100000
namespace Go.Fbs
open Go.Proofs
attribute [local irreducible] aMp uM a3m
structure bI2 (s:gP) (R:List iH) (r:Bool×gP×j0):Prop where
 ok:r.1=true
 l:r.2.1.l=R
 n:r.2.1.n=s.n
 at_:r.2.1.at_=s.at_
 e:r.2.1.e=s.e
 d:r.2.1.d=s.d
theorem a15 {L:List (List UInt8)} {m:Nat} (h:(L.all fun w=>decide ((fV w).length≤m))=true) {w:List UInt8} (hw:w ∈ L):(fV w).length≤m:=by
 have:=List.all_eq_true.1 h w hw
 simpa using this
theorem aWi (n:Int):(aMr n).length≤200:=by
 have h1:=a15 (m:=3) (L:=qG) (by kernel_rfl) (mG n)
 have h2:=a15 (m:=3) (L:=qG) (by kernel_rfl) (mG (fU n 8))
 have h3:=a15 (m:=3) (L:=qG) (by kernel_rfl) (mG (fU n 16))
 have h4:=a15 (m:=3) (L:=qG) (by kernel_rfl) (mG (fU n 20))
 have h5:=a15 (m:=2) (L:=a7e) (by kernel_rfl) (aIw n)
 have h6:=a15 (m:=2) (L:=aBc) (by kernel_rfl) (aS7 n)
 unfold aMr aEy
 split <;> (try split) <;> simp only [zwy,zwx,List.length_nil] <;> omega
theorem b92 {T:List iH} {ks:List KT} {R:List iH} (h:T.map kt=(1,[116,121,112,101])::ks):noB [123] (T++R):=by
 obtain ⟨t,T',rfl,hk,_⟩:=dF h
 exact hP (by rw [hk]; simp)
end Go.Fbs
