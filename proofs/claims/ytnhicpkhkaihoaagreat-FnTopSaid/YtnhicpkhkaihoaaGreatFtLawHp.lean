/- A part of the proof. -/
import Derived.Test.YtnhicpkhkaihoaaGreatFtLawTyWeak
namespace Go.Proofs.YtnhicpkhkaihoaaGreat.P
open Go Go.Proofs.YtnhicpkhkaihoaaGreat Go.Proofs.YtnhicpkhkaihoaaGreat.Eng
set_option maxHeartbeats 4000000
set_option linter.unusedVariables false
set_option linter.unusedSimpArgs false
attribute [local irreducible] prP gP gE gF AV ixW ldc ldg ldl stc stg scW mkW apW BC cl2 BW F6 C2
variable {w0:World}
structure Raw (h:Hp):Prop where
 ol:(h.BA.length:Int)<2^63
 of: ∀o∈h.BA,(o.field.length:Int)<2^63
 wl:(h.B7.length:Int)<2^63
 bl:(h.buffer.length:Int)<2^63
 sl:(h.sites.length:Int)<2^63
 ss: ∀s∈h.sites,(s.size:Int)<2^63
structure Fits (h:Hp):Prop where
 ol:(h.BA.length:Int)≤1048576
 of: ∀o∈h.BA,(o.field.length:Int)≤1048576
 wl:(h.B7.length:Int)≤1048576
 bl:(h.buffer.length:Int)≤1048576
 sl:(h.sites.length:Int)≤1048576
 ss: ∀s∈h.sites,(s.size:Int)≤1048576
abbrev trees (h:Hp):List (List T):=[tR tO h.BA,tR tW h.B7,tI h.buffer,tS h.sites]
def Ag (h:Hp):Int:=szL T7 h.BA+szL XT h.B7+h.buffer.length+h.sites.length
theorem aW {α:Type} {sz:α→Int} {b:Int}: ∀{l:List α},(∀x∈l,sz x≤b)→szL sz l≤l.length*b
 | [],_=>by simp [szL]
 | x::l,h=>by
   have h1:=h x (by simp)
   have h2:=aW (l:=l) fun y hy=>h y (by simp [hy])
   simp only [szL,List.length_cons]
   have:((l.length+1:Nat):Int)*b=l.length*b+b:=by
    rw [Int.natCast_add,Int.add_mul];simp
   omega
theorem Fits.BA {h:Hp} (hf:Fits h):0≤szL T7 h.BA∧szL T7 h.BA≤2^41:=by
 refine ⟨VU lE _, ?_⟩
 have h1:=aW (sz:=T7) (b:=1048583) (l:=h.BA) fun o ho=>by have:=hf.of o ho;unfold T7;omega
 have h2:=hf.ol
 have h3:(h.BA.length:Int)*1048583≤1048576*1048583:=Int.mul_le_mul_of_nonneg_right h2 (by omega)
 omega
theorem Fits.B7 {h:Hp} (hf:Fits h):0≤szL XT h.B7∧szL XT h.B7≤2^41:=by
 refine ⟨VU kE _, ?_⟩
 have h1:=aW (sz:=XT) (b:=2) (l:=h.B7) fun o ho=>by unfold XT;omega
 have h2:=hf.wl
 omega
theorem Fits.sz {h:Hp} (hf:Fits h):0≤Ag h∧Ag h≤2^43:=by
 have h1:=hf.BA;have h2:=hf.B7;have h3:=hf.bl;have h4:=hf.sl
 unfold Ag;omega
structure VT (h:Hp):Prop where
 obj: ∀o∈h.BA,F64 o.gen∧F64 o.site∧F64 o.holds∧F64 o.roots∧F64 o.count∧ ∀f∈o.field,F64 f
 weak: ∀w∈h.B7,F64 w.target
 buf: ∀b∈h.buffer,F64 b
end Go.Proofs.YtnhicpkhkaihoaaGreat.P
