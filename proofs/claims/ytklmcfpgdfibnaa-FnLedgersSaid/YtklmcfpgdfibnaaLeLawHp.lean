/- A part of the proof. -/
import Derived.Test.YtklmcfpgdfibnaaLeLawTyWeak
namespace Go.Proofs.Ytklmcfpgdfibnaa.P
open Go Go.Proofs.Ytklmcfpgdfibnaa Go.Proofs.Ytklmcfpgdfibnaa.Eng
set_option maxHeartbeats 4000000
set_option linter.unusedVariables false
set_option linter.unusedSimpArgs false
attribute [local irreducible] prP gP gE gF AJ ixW ldc ldg ldl stc stg scW mkW apW A6 cl2 BF CM CB
variable {w0:World}
structure Raw (h:Hp):Prop where
 ol:(h.AD.length:Int)<2^63
 of: ∀o∈h.AD,(o.field.length:Int)<2^63
 wl:(h.B6.length:Int)<2^63
 bl:(h.buffer.length:Int)<2^63
 sl:(h.sites.length:Int)<2^63
 ss: ∀s∈h.sites,(s.size:Int)<2^63
structure Fits (h:Hp):Prop where
 ol:(h.AD.length:Int)≤1048576
 of: ∀o∈h.AD,(o.field.length:Int)≤1048576
 wl:(h.B6.length:Int)≤1048576
 bl:(h.buffer.length:Int)≤1048576
 sl:(h.sites.length:Int)≤1048576
 ss: ∀s∈h.sites,(s.size:Int)≤1048576
abbrev trees (h:Hp):List (List T):=[tR tO h.AD,tR tW h.B6,tI h.buffer,tS h.sites]
def wA (h:Hp):Int:=szL QW h.AD+szL TY h.B6+h.buffer.length+h.sites.length
theorem UZ {α:Type} {sz:α→Int} {b:Int}: ∀{l:List α},(∀x∈l,sz x≤b)→szL sz l≤l.length*b
 | [],_=>by simp [szL]
 | x::l,h=>by
   have h1:=h x (by simp)
   have h2:=UZ (l:=l) fun y hy=>h y (by simp [hy])
   simp only [szL,List.length_cons]
   have:((l.length+1:Nat):Int)*b=l.length*b+b:=by
    rw [Int.natCast_add,Int.add_mul];simp
   omega
theorem Fits.AD {h:Hp} (hf:Fits h):0≤szL QW h.AD∧szL QW h.AD≤2^41:=by
 refine ⟨RF gA _, ?_⟩
 have h1:=UZ (sz:=QW) (b:=1048583) (l:=h.AD) fun o ho=>by have:=hf.of o ho;unfold QW;omega
 have h2:=hf.ol
 have h3:(h.AD.length:Int)*1048583≤1048576*1048583:=Int.mul_le_mul_of_nonneg_right h2 (by omega)
 omega
theorem Fits.B6 {h:Hp} (hf:Fits h):0≤szL TY h.B6∧szL TY h.B6≤2^41:=by
 refine ⟨RF bK _, ?_⟩
 have h1:=UZ (sz:=TY) (b:=2) (l:=h.B6) fun o ho=>by unfold TY;omega
 have h2:=hf.wl
 omega
theorem Fits.sz {h:Hp} (hf:Fits h):0≤wA h∧wA h≤2^43:=by
 have h1:=hf.AD;have h2:=hf.B6;have h3:=hf.bl;have h4:=hf.sl
 unfold wA;omega
structure V5 (h:Hp):Prop where
 obj: ∀o∈h.AD,F64 o.gen∧F64 o.site∧F64 o.holds∧F64 o.roots∧F64 o.count∧ ∀f∈o.field,F64 f
 weak: ∀w∈h.B6,F64 w.target
 buf: ∀b∈h.buffer,F64 b
end Go.Proofs.Ytklmcfpgdfibnaa.P
