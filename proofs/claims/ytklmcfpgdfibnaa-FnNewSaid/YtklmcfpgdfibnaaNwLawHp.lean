/- A part of the proof. -/
import Derived.Test.YtklmcfpgdfibnaaNwLawTyWeak
namespace Go.Proofs.Ytklmcfpgdfibnaa.P
open Go Go.Proofs.Ytklmcfpgdfibnaa Go.Proofs.Ytklmcfpgdfibnaa.Eng
set_option maxHeartbeats 4000000
set_option linter.unusedVariables false
set_option linter.unusedSimpArgs false
attribute [local irreducible] prP gP gE gF AV ixW ldc ldg ldl stc stg scW mkW apW BL cl2 BS EC CX
variable {w0:World}
structure Raw (h:Hp):Prop where
 ol:(h.BB.length:Int)<2^63
 of: ∀o∈h.BB,(o.field.length:Int)<2^63
 wl:(h.CA.length:Int)<2^63
 bl:(h.buffer.length:Int)<2^63
 sl:(h.sites.length:Int)<2^63
 ss: ∀s∈h.sites,(s.size:Int)<2^63
structure Fits (h:Hp):Prop where
 ol:(h.BB.length:Int)≤1048576
 of: ∀o∈h.BB,(o.field.length:Int)≤1048576
 wl:(h.CA.length:Int)≤1048576
 bl:(h.buffer.length:Int)≤1048576
 sl:(h.sites.length:Int)≤1048576
 ss: ∀s∈h.sites,(s.size:Int)≤1048576
abbrev trees (h:Hp):List (List T):=[tR tO h.BB,tR tW h.CA,tI h.buffer,tS h.sites]
def rL (h:Hp):Int:=szL QQ h.BB+szL TI h.CA+h.buffer.length+h.sites.length
theorem VZ {α:Type} {sz:α→Int} {b:Int}: ∀{l:List α},(∀x∈l,sz x≤b)→szL sz l≤l.length*b
 | [],_=>by simp [szL]
 | x::l,h=>by
   have h1:=h x (by simp)
   have h2:=VZ (l:=l) fun y hy=>h y (by simp [hy])
   simp only [szL,List.length_cons]
   have:((l.length+1:Nat):Int)*b=l.length*b+b:=by
    rw [Int.natCast_add,Int.add_mul];simp
   omega
theorem Fits.BB {h:Hp} (hf:Fits h):0≤szL QQ h.BB∧szL QQ h.BB≤2^41:=by
 refine ⟨Q4 cS _, ?_⟩
 have h1:=VZ (sz:=QQ) (b:=1048583) (l:=h.BB) fun o ho=>by have:=hf.of o ho;unfold QQ;omega
 have h2:=hf.ol
 have h3:(h.BB.length:Int)*1048583≤1048576*1048583:=Int.mul_le_mul_of_nonneg_right h2 (by omega)
 omega
theorem Fits.CA {h:Hp} (hf:Fits h):0≤szL TI h.CA∧szL TI h.CA≤2^41:=by
 refine ⟨Q4 bA _, ?_⟩
 have h1:=VZ (sz:=TI) (b:=2) (l:=h.CA) fun o ho=>by unfold TI;omega
 have h2:=hf.wl
 omega
theorem Fits.sz {h:Hp} (hf:Fits h):0≤rL h∧rL h≤2^43:=by
 have h1:=hf.BB;have h2:=hf.CA;have h3:=hf.bl;have h4:=hf.sl
 unfold rL;omega
structure T7 (h:Hp):Prop where
 obj: ∀o∈h.BB,F64 o.gen∧F64 o.site∧F64 o.holds∧F64 o.roots∧F64 o.count∧ ∀f∈o.field,F64 f
 weak: ∀w∈h.CA,F64 w.target
 buf: ∀b∈h.buffer,F64 b
end Go.Proofs.Ytklmcfpgdfibnaa.P
