/- A part of the proof. -/
import Derived.Test.YtnhicpkhkaihoaaGreatFaLawTyWeak
namespace Go.Proofs.YtnhicpkhkaihoaaGreat.P
open Go Go.Proofs.YtnhicpkhkaihoaaGreat Go.Proofs.YtnhicpkhkaihoaaGreat.Eng
set_option maxHeartbeats 4000000
set_option linter.unusedVariables false
set_option linter.unusedSimpArgs false
attribute [local irreducible] prP gP gE gF AU ixW ldc ldg ldl stc stg scW mkW apW BG cl2 BX GP CZ
variable {w0:World}
structure Raw (h:Hp):Prop where
 ol:(h.BD.length:Int)<2^63
 of: ∀o∈h.BD,(o.field.length:Int)<2^63
 wl:(h.B8.length:Int)<2^63
 bl:(h.buffer.length:Int)<2^63
 sl:(h.sites.length:Int)<2^63
 ss: ∀s∈h.sites,(s.size:Int)<2^63
structure Fits (h:Hp):Prop where
 ol:(h.BD.length:Int)≤1048576
 of: ∀o∈h.BD,(o.field.length:Int)≤1048576
 wl:(h.B8.length:Int)≤1048576
 bl:(h.buffer.length:Int)≤1048576
 sl:(h.sites.length:Int)≤1048576
 ss: ∀s∈h.sites,(s.size:Int)≤1048576
abbrev trees (h:Hp):List (List T):=[tR tO h.BD,tR tW h.B8,tI h.buffer,tS h.sites]
def Cj (h:Hp):Int:=szL U3 h.BD+szL X5 h.B8+h.buffer.length+h.sites.length
theorem Y7 {α:Type} {sz:α→Int} {b:Int}: ∀{l:List α},(∀x∈l,sz x≤b)→szL sz l≤l.length*b
 | [],_=>by simp [szL]
 | x::l,h=>by
   have h1:=h x (by simp)
   have h2:=Y7 (l:=l) fun y hy=>h y (by simp [hy])
   simp only [szL,List.length_cons]
   have:((l.length+1:Nat):Int)*b=l.length*b+b:=by
    rw [Int.natCast_add,Int.add_mul];simp
   omega
theorem Fits.BD {h:Hp} (hf:Fits h):0≤szL U3 h.BD∧szL U3 h.BD≤2^41:=by
 refine ⟨VL mS _, ?_⟩
 have h1:=Y7 (sz:=U3) (b:=1048583) (l:=h.BD) fun o ho=>by have:=hf.of o ho;unfold U3;omega
 have h2:=hf.ol
 have h3:(h.BD.length:Int)*1048583≤1048576*1048583:=Int.mul_le_mul_of_nonneg_right h2 (by omega)
 omega
theorem Fits.B8 {h:Hp} (hf:Fits h):0≤szL X5 h.B8∧szL X5 h.B8≤2^41:=by
 refine ⟨VL kY _, ?_⟩
 have h1:=Y7 (sz:=X5) (b:=2) (l:=h.B8) fun o ho=>by unfold X5;omega
 have h2:=hf.wl
 omega
theorem Fits.sz {h:Hp} (hf:Fits h):0≤Cj h∧Cj h≤2^43:=by
 have h1:=hf.BD;have h2:=hf.B8;have h3:=hf.bl;have h4:=hf.sl
 unfold Cj;omega
structure VN (h:Hp):Prop where
 obj: ∀o∈h.BD,F64 o.gen∧F64 o.site∧F64 o.holds∧F64 o.roots∧F64 o.count∧ ∀f∈o.field,F64 f
 weak: ∀w∈h.B8,F64 w.target
 buf: ∀b∈h.buffer,F64 b
end Go.Proofs.YtnhicpkhkaihoaaGreat.P
