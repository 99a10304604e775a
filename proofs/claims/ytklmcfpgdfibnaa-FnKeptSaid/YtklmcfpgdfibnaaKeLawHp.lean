/- A part of the proof. -/
import Derived.Test.YtklmcfpgdfibnaaKeLawTyWeak
namespace Go.Proofs.Ytklmcfpgdfibnaa.P
open Go Go.Proofs.Ytklmcfpgdfibnaa Go.Proofs.Ytklmcfpgdfibnaa.Eng
set_option maxHeartbeats 4000000
set_option linter.unusedVariables false
set_option linter.unusedSimpArgs false
attribute [local irreducible] prP gP gE gF AX ixW ldc ldg ldl stc stg scW mkW apW BE cl2 BS DF CB
variable {w0:World}
structure Raw (h:Hp):Prop where
 ol:(h.AD.length:Int)<2^63
 of: ∀o∈h.AD,(o.field.length:Int)<2^63
 wl:(h.BW.length:Int)<2^63
 bl:(h.buffer.length:Int)<2^63
 sl:(h.sites.length:Int)<2^63
 ss: ∀s∈h.sites,(s.size:Int)<2^63
structure Fits (h:Hp):Prop where
 ol:(h.AD.length:Int)≤1048576
 of: ∀o∈h.AD,(o.field.length:Int)≤1048576
 wl:(h.BW.length:Int)≤1048576
 bl:(h.buffer.length:Int)≤1048576
 sl:(h.sites.length:Int)≤1048576
 ss: ∀s∈h.sites,(s.size:Int)≤1048576
abbrev trees (h:Hp):List (List T):=[tR tO h.AD,tR tW h.BW,tI h.buffer,tS h.sites]
def yH (h:Hp):Int:=szL SZ h.AD+szL VY h.BW+h.buffer.length+h.sites.length
theorem XW {α:Type} {sz:α→Int} {b:Int}: ∀{l:List α},(∀x∈l,sz x≤b)→szL sz l≤l.length*b
 | [],_=>by simp [szL]
 | x::l,h=>by
   have h1:=h x (by simp)
   have h2:=XW (l:=l) fun y hy=>h y (by simp [hy])
   simp only [szL,List.length_cons]
   have:((l.length+1:Nat):Int)*b=l.length*b+b:=by
    rw [Int.natCast_add,Int.add_mul];simp
   omega
theorem Fits.AD {h:Hp} (hf:Fits h):0≤szL SZ h.AD∧szL SZ h.AD≤2^41:=by
 refine ⟨T7 gY _, ?_⟩
 have h1:=XW (sz:=SZ) (b:=1048583) (l:=h.AD) fun o ho=>by have:=hf.of o ho;unfold SZ;omega
 have h2:=hf.ol
 have h3:(h.AD.length:Int)*1048583≤1048576*1048583:=Int.mul_le_mul_of_nonneg_right h2 (by omega)
 omega
theorem Fits.BW {h:Hp} (hf:Fits h):0≤szL VY h.BW∧szL VY h.BW≤2^41:=by
 refine ⟨T7 fR _, ?_⟩
 have h1:=XW (sz:=VY) (b:=2) (l:=h.BW) fun o ho=>by unfold VY;omega
 have h2:=hf.wl
 omega
theorem Fits.sz {h:Hp} (hf:Fits h):0≤yH h∧yH h≤2^43:=by
 have h1:=hf.AD;have h2:=hf.BW;have h3:=hf.bl;have h4:=hf.sl
 unfold yH;omega
structure RY (h:Hp):Prop where
 obj: ∀o∈h.AD,F64 o.gen∧F64 o.site∧F64 o.holds∧F64 o.roots∧F64 o.count∧ ∀f∈o.field,F64 f
 weak: ∀w∈h.BW,F64 w.target
 buf: ∀b∈h.buffer,F64 b
end Go.Proofs.Ytklmcfpgdfibnaa.P
