/- A part of the proof. -/
import Derived.Test.YthapfcoajahegaaDoorReLawTyWeak
namespace Go.Proofs.YthapfcoajahegaaDoor.P
open Go Go.Proofs.YthapfcoajahegaaDoor Go.Proofs.YthapfcoajahegaaDoor.Eng
set_option maxHeartbeats 4000000
set_option linter.unusedVariables false
set_option linter.unusedSimpArgs false
attribute [local irreducible] prP gP gE gF AY ixW ldc ldg ldl stc stg scW mkW apW A6 cl2 BL C5 BX
variable {w0:World}
structure Raw (h:Hp):Prop where
 ol:(h.AG.length:Int)<2^63
 of: ∀o∈h.AG,(o.field.length:Int)<2^63
 wl:(h.CY.length:Int)<2^63
 bl:(h.buffer.length:Int)<2^63
 sl:(h.sites.length:Int)<2^63
 ss: ∀s∈h.sites,(s.size:Int)<2^63
structure Fits (h:Hp):Prop where
 ol:(h.AG.length:Int)≤1048576
 of: ∀o∈h.AG,(o.field.length:Int)≤1048576
 wl:(h.CY.length:Int)≤1048576
 bl:(h.buffer.length:Int)≤1048576
 sl:(h.sites.length:Int)≤1048576
 ss: ∀s∈h.sites,(s.size:Int)≤1048576
abbrev trees (h:Hp):List (List T):=[tR tO h.AG,tR tW h.CY,tI h.buffer,tS h.sites]
def qD (h:Hp):Int:=szL QZ h.AG+szL TK h.CY+h.buffer.length+h.sites.length
theorem VV {α:Type} {sz:α→Int} {b:Int}: ∀{l:List α},(∀x∈l,sz x≤b)→szL sz l≤l.length*b
 | [],_=>by simp [szL]
 | x::l,h=>by
   have h1:=h x (by simp)
   have h2:=VV (l:=l) fun y hy=>h y (by simp [hy])
   simp only [szL,List.length_cons]
   have:((l.length+1:Nat):Int)*b=l.length*b+b:=by
    rw [Int.natCast_add,Int.add_mul];simp
   omega
theorem Fits.AG {h:Hp} (hf:Fits h):0≤szL QZ h.AG∧szL QZ h.AG≤2^41:=by
 refine ⟨RM c7 _, ?_⟩
 have h1:=VV (sz:=QZ) (b:=1048583) (l:=h.AG) fun o ho=>by have:=hf.of o ho;unfold QZ;omega
 have h2:=hf.ol
 have h3:(h.AG.length:Int)*1048583≤1048576*1048583:=Int.mul_le_mul_of_nonneg_right h2 (by omega)
 omega
theorem Fits.CY {h:Hp} (hf:Fits h):0≤szL TK h.CY∧szL TK h.CY≤2^41:=by
 refine ⟨RM Z1 _, ?_⟩
 have h1:=VV (sz:=TK) (b:=2) (l:=h.CY) fun o ho=>by unfold TK;omega
 have h2:=hf.wl
 omega
theorem Fits.sz {h:Hp} (hf:Fits h):0≤qD h∧qD h≤2^43:=by
 have h1:=hf.AG;have h2:=hf.CY;have h3:=hf.bl;have h4:=hf.sl
 unfold qD;omega
structure V4 (h:Hp):Prop where
 obj: ∀o∈h.AG,F64 o.gen∧F64 o.site∧F64 o.holds∧F64 o.roots∧F64 o.count∧ ∀f∈o.field,F64 f
 weak: ∀w∈h.CY,F64 w.target
 buf: ∀b∈h.buffer,F64 b
end Go.Proofs.YthapfcoajahegaaDoor.P
