/- A part of the proof. -/
import Derived.Test.YtklmcfpgdfibnaaLkLawTyWeak
namespace Go.Proofs.Ytklmcfpgdfibnaa.P
open Go Go.Proofs.Ytklmcfpgdfibnaa Go.Proofs.Ytklmcfpgdfibnaa.Eng
set_option maxHeartbeats 4000000
set_option linter.unusedVariables false
set_option linter.unusedSimpArgs false
attribute [local irreducible] prP gP gE gF A6 ixW ldc ldg ldl stc stg scW mkW apW BD cl2 BP C3 B9
variable {w0:World}
structure Raw (h:Hp):Prop where
 ol:(h.AA.length:Int)<2^63
 of: ∀o∈h.AA,(o.field.length:Int)<2^63
 wl:(h.B4.length:Int)<2^63
 bl:(h.buffer.length:Int)<2^63
 sl:(h.sites.length:Int)<2^63
 ss: ∀s∈h.sites,(s.size:Int)<2^63
structure Fits (h:Hp):Prop where
 ol:(h.AA.length:Int)≤1048576
 of: ∀o∈h.AA,(o.field.length:Int)≤1048576
 wl:(h.B4.length:Int)≤1048576
 bl:(h.buffer.length:Int)≤1048576
 sl:(h.sites.length:Int)≤1048576
 ss: ∀s∈h.sites,(s.size:Int)≤1048576
abbrev trees (h:Hp):List (List T):=[tR tO h.AA,tR tW h.B4,tI h.buffer,tS h.sites]
def uZ (h:Hp):Int:=szL RQ h.AA+szL U7 h.B4+h.buffer.length+h.sites.length
theorem WD {α:Type} {sz:α→Int} {b:Int}: ∀{l:List α},(∀x∈l,sz x≤b)→szL sz l≤l.length*b
 | [],_=>by simp [szL]
 | x::l,h=>by
   have h1:=h x (by simp)
   have h2:=WD (l:=l) fun y hy=>h y (by simp [hy])
   simp only [szL,List.length_cons]
   have:((l.length+1:Nat):Int)*b=l.length*b+b:=by
    rw [Int.natCast_add,Int.add_mul];simp
   omega
theorem Fits.AA {h:Hp} (hf:Fits h):0≤szL RQ h.AA∧szL RQ h.AA≤2^41:=by
 refine ⟨SD gX _, ?_⟩
 have h1:=WD (sz:=RQ) (b:=1048583) (l:=h.AA) fun o ho=>by have:=hf.of o ho;unfold RQ;omega
 have h2:=hf.ol
 have h3:(h.AA.length:Int)*1048583≤1048576*1048583:=Int.mul_le_mul_of_nonneg_right h2 (by omega)
 omega
theorem Fits.B4 {h:Hp} (hf:Fits h):0≤szL U7 h.B4∧szL U7 h.B4≤2^41:=by
 refine ⟨SD cI _, ?_⟩
 have h1:=WD (sz:=U7) (b:=2) (l:=h.B4) fun o ho=>by unfold U7;omega
 have h2:=hf.wl
 omega
theorem Fits.sz {h:Hp} (hf:Fits h):0≤uZ h∧uZ h≤2^43:=by
 have h1:=hf.AA;have h2:=hf.B4;have h3:=hf.bl;have h4:=hf.sl
 unfold uZ;omega
structure U4 (h:Hp):Prop where
 obj: ∀o∈h.AA,F64 o.gen∧F64 o.site∧F64 o.holds∧F64 o.roots∧F64 o.count∧ ∀f∈o.field,F64 f
 weak: ∀w∈h.B4,F64 w.target
 buf: ∀b∈h.buffer,F64 b
end Go.Proofs.Ytklmcfpgdfibnaa.P
