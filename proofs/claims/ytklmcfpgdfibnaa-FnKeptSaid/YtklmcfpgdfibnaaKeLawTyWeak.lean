/- A part of the proof. -/
import Derived.Test.YtklmcfpgdfibnaaKeLawGen0
namespace Go.Proofs.Ytklmcfpgdfibnaa.P
open Go Go.Proofs.Ytklmcfpgdfibnaa Go.Proofs.Ytklmcfpgdfibnaa.Eng
set_option maxHeartbeats 4000000
set_option linter.unusedVariables false
set_option linter.unusedSimpArgs false
attribute [local irreducible] prP gP gE gF AX ixW ldc ldg ldl stc stg scW mkW apW BE cl2 BS DF CB
variable {w0:World}
def SZ (o:AU):Int:=7+(o.field.length:Int)
theorem gY (o:AU):0≤SZ o:=by unfold SZ;omega
theorem H8 {cur:List AU} {i:Nat} {y:AU} {v:Int} {K:List T→Prop} (hi:i<cur.length) (h:K (tR tO (cur.set i {y with count:=v}))):stc (tR tO (cur.set i y)) [] (AA (iv i)*8+5) (I v) K:=kB hi (by decide) rfl rfl h
theorem QC {cur:List AU} {i:Nat} {y:AU} (hi:i<cur.length):EG (tR tO (cur.set i y)) [AA (iv i)*8+6]=tI y.field:=oZ hi (by decide) rfl
theorem PS {cur:List AU} {i:Nat} {y:AU} {v:Bool} {K:List T→Prop} (hi:i<cur.length) (h:K (tR tO (cur.set i {y with purple:=v}))):stc (tR tO (cur.set i y)) [] (AA (iv i)*8+7) (.bool v) K:=kB hi (by decide) rfl rfl h
end Go.Proofs.Ytklmcfpgdfibnaa.P
namespace Go.Proofs.Ytklmcfpgdfibnaa.P
open Go Go.Proofs.Ytklmcfpgdfibnaa Go.Proofs.Ytklmcfpgdfibnaa.Eng
set_option maxHeartbeats 4000000
set_option linter.unusedVariables false
set_option linter.unusedSimpArgs false
attribute [local irreducible] prP gP gE gF AX ixW ldc ldg ldl stc stg scW mkW apW BE cl2 BS DF CB
variable {w0:World}
def VY (o:Wk):Int:=2
theorem fR (o:Wk):0≤VY o:=by unfold VY;omega
end Go.Proofs.Ytklmcfpgdfibnaa.P
