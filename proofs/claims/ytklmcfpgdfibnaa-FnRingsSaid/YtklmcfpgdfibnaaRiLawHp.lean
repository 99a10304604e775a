/- A part of the proof. -/
import Derived.Test.YtklmcfpgdfibnaaRiLawTyWeak
namespace Go.Proofs.Ytklmcfpgdfibnaa.P
open Go Go.Proofs.Ytklmcfpgdfibnaa Go.Proofs.Ytklmcfpgdfibnaa.Eng
set_option maxHeartbeats 4000000
set_option linter.unusedVariables false
set_option linter.unusedSimpArgs false
attribute [local irreducible] prP gP gE gF AW ixW ldc ldg ldl stc stg scW mkW apW AZ cl2 BJ CH B2
variable {w0:World}
structure Raw (h:Hp):Prop where
 ol:(h.AB.length:Int)<2^63
 of: ∀o∈h.AB,(o.field.length:Int)<2^63
 wl:(h.CB.length:Int)<2^63
 bl:(h.buffer.length:Int)<2^63
 sl:(h.sites.length:Int)<2^63
 ss: ∀s∈h.sites,(s.size:Int)<2^63
structure Fits (h:Hp):Prop where
 ol:(h.AB.length:Int)≤1048576
 of: ∀o∈h.AB,(o.field.length:Int)≤1048576
 wl:(h.CB.length:Int)≤1048576
 bl:(h.buffer.length:Int)≤1048576
 sl:(h.sites.length:Int)≤1048576
 ss: ∀s∈h.sites,(s.size:Int)≤1048576
abbrev trees (h:Hp):List (List T):=[tR tO h.AB,tR tW h.CB,tI h.buffer,tS h.sites]
def uZ (h:Hp):Int:=szL P9 h.AB+szL S9 h.CB+h.buffer.length+h.sites.length
theorem UU {α:Type} {sz:α→Int} {b:Int}: ∀{l:List α},(∀x∈l,sz x≤b)→szL sz l≤l.length*b
 | [],_=>by simp [szL]
 | x::l,h=>by
   have h1:=h x (by simp)
   have h2:=UU (l:=l) fun y hy=>h y (by simp [hy])
   simp only [szL,List.length_cons]
   have:((l.length+1:Nat):Int)*b=l.length*b+b:=by
    rw [Int.natCast_add,Int.add_mul];simp
   omega
theorem Fits.AB {h:Hp} (hf:Fits h):0≤szL P9 h.AB∧szL P9 h.AB≤2^41:=by
 refine ⟨Q2 c6 _, ?_⟩
 have h1:=UU (sz:=P9) (b:=1048583) (l:=h.AB) fun o ho=>by have:=hf.of o ho;unfold P9;omega
 have h2:=hf.ol
 have h3:(h.AB.length:Int)*1048583≤1048576*1048583:=Int.mul_le_mul_of_nonneg_right h2 (by omega)
 omega
theorem Fits.CB {h:Hp} (hf:Fits h):0≤szL S9 h.CB∧szL S9 h.CB≤2^41:=by
 refine ⟨Q2 bW _, ?_⟩
 have h1:=UU (sz:=S9) (b:=2) (l:=h.CB) fun o ho=>by unfold S9;omega
 have h2:=hf.wl
 omega
theorem Fits.sz {h:Hp} (hf:Fits h):0≤uZ h∧uZ h≤2^43:=by
 have h1:=hf.AB;have h2:=hf.CB;have h3:=hf.bl;have h4:=hf.sl
 unfold uZ;omega
structure QR (h:Hp):Prop where
 obj: ∀o∈h.AB,F64 o.gen∧F64 o.site∧F64 o.holds∧F64 o.roots∧F64 o.count∧ ∀f∈o.field,F64 f
 weak: ∀w∈h.CB,F64 w.target
 buf: ∀b∈h.buffer,F64 b
end Go.Proofs.Ytklmcfpgdfibnaa.P
