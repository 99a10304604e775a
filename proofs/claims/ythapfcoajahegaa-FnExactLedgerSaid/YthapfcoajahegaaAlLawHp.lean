/- A part of the proof. -/
import Derived.Test.YthapfcoajahegaaAlLawTyWeak
namespace Go.Proofs.Ythapfcoajahegaa.P
open Go Go.Proofs.Ythapfcoajahegaa Go.Proofs.Ythapfcoajahegaa.Eng
set_option maxHeartbeats 4000000
set_option linter.unusedVariables false
set_option linter.unusedSimpArgs false
attribute [local irreducible] prP gP gE gF AH ixW ldc ldg ldl stc stg scW mkW apW AP cl2 AX C9 BW
variable {w0:World}
structure Raw (h:Hp):Prop where
 ol:(h.BC.length:Int)<2^63
 of: ∀o∈h.BC,(o.field.length:Int)<2^63
 wl:(h.DO.length:Int)<2^63
 bl:(h.buffer.length:Int)<2^63
 sl:(h.sites.length:Int)<2^63
 ss: ∀s∈h.sites,(s.size:Int)<2^63
structure Fits (h:Hp):Prop where
 ol:(h.BC.length:Int)≤1048576
 of: ∀o∈h.BC,(o.field.length:Int)≤1048576
 wl:(h.DO.length:Int)≤1048576
 bl:(h.buffer.length:Int)≤1048576
 sl:(h.sites.length:Int)≤1048576
 ss: ∀s∈h.sites,(s.size:Int)≤1048576
def pG (h:Hp):Int:=szL P9 h.BC+szL SR h.DO+h.buffer.length+h.sites.length
theorem OQ {α:Type} {sz:α→Int} {b:Int}: ∀{l:List α},(∀x∈l,sz x≤b)→szL sz l≤l.length*b
 | [],_=>by simp [szL]
 | x::l,h=>by
   have h1:=h x (by simp)
   have h2:=OQ (l:=l) fun y hy=>h y (by simp [hy])
   simp only [szL,List.length_cons]
   have:((l.length+1:Nat):Int)*b=l.length*b+b:=by
    rw [Int.natCast_add,Int.add_mul];simp
   omega
theorem Fits.BC {h:Hp} (hf:Fits h):0≤szL P9 h.BC∧szL P9 h.BC≤2^41:=by
 refine ⟨HU cV _, ?_⟩
 have h1:=OQ (sz:=P9) (b:=1048583) (l:=h.BC) fun o ho=>by have:=hf.of o ho;unfold P9;omega
 have h2:=hf.ol
 have h3:(h.BC.length:Int)*1048583≤1048576*1048583:=Int.mul_le_mul_of_nonneg_right h2 (by omega)
 omega
theorem Fits.DO {h:Hp} (hf:Fits h):0≤szL SR h.DO∧szL SR h.DO≤2^41:=by
 refine ⟨HU bI _, ?_⟩
 have h1:=OQ (sz:=SR) (b:=2) (l:=h.DO) fun o ho=>by unfold SR;omega
 have h2:=hf.wl
 omega
theorem Fits.sz {h:Hp} (hf:Fits h):0≤pG h∧pG h≤2^43:=by
 have h1:=hf.BC;have h2:=hf.DO;have h3:=hf.bl;have h4:=hf.sl
 unfold pG;omega
structure Z6 (h:Hp):Prop where
 obj: ∀o∈h.BC,F64 o.gen∧F64 o.site∧F64 o.holds∧F64 o.roots∧F64 o.count∧ ∀f∈o.field,F64 f
 weak: ∀w∈h.DO,F64 w.target
 buf: ∀b∈h.buffer,F64 b
end Go.Proofs.Ythapfcoajahegaa.P
