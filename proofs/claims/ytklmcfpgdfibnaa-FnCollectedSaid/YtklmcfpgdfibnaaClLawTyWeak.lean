/- A part of the proof. -/
import Derived.Test.YtklmcfpgdfibnaaClLawGen0
namespace Go.Proofs.Ytklmcfpgdfibnaa.P
open Go Go.Proofs.Ytklmcfpgdfibnaa Go.Proofs.Ytklmcfpgdfibnaa.Eng
set_option maxHeartbeats 4000000
set_option linter.unusedVariables false
set_option linter.unusedSimpArgs false
attribute [local irreducible] prP gP gE gF A7 ixW ldc ldg ldl stc stg scW mkW apW BD cl2 BP DT C0
variable {w0:World}
def RV (o:AT):Int:=7+(o.field.length:Int)
theorem eJ (o:AT):0≤RV o:=by unfold RV;omega
theorem JT {cur:List AT} {i:Nat} {y:AT} {v:Int} {K:List T→Prop} (hi:i<cur.length) (h:K (tR tO (cur.set i {y with count:=v}))):stc (tR tO (cur.set i y)) [] (AB (iv i)*8+5) (I v) K:=gZ hi (by decide) rfl rfl h
theorem W9 {cur:List AT} {i:Nat} {y:AT} (hi:i<cur.length):GH (tR tO (cur.set i y)) [AB (iv i)*8+6]=tI y.field:=pC hi (by decide) rfl
theorem UR {cur:List AT} {i:Nat} {y:AT} {v:Bool} {K:List T→Prop} (hi:i<cur.length) (h:K (tR tO (cur.set i {y with purple:=v}))):stc (tR tO (cur.set i y)) [] (AB (iv i)*8+7) (.bool v) K:=gZ hi (by decide) rfl rfl h
end Go.Proofs.Ytklmcfpgdfibnaa.P
namespace Go.Proofs.Ytklmcfpgdfibnaa.P
open Go Go.Proofs.Ytklmcfpgdfibnaa Go.Proofs.Ytklmcfpgdfibnaa.Eng
set_option maxHeartbeats 4000000
set_option linter.unusedVariables false
set_option linter.unusedSimpArgs false
attribute [local irreducible] prP gP gE gF A7 ixW ldc ldg ldl stc stg scW mkW apW BD cl2 BP DT C0
variable {w0:World}
def UF (o:Wk):Int:=2
theorem dP (o:Wk):0≤UF o:=by unfold UF;omega
end Go.Proofs.Ytklmcfpgdfibnaa.P
