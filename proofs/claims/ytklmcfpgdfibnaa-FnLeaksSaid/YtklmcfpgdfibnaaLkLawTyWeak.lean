/- A part of the proof. -/
import Derived.Test.YtklmcfpgdfibnaaLkLawGen0
namespace Go.Proofs.Ytklmcfpgdfibnaa.P
open Go Go.Proofs.Ytklmcfpgdfibnaa Go.Proofs.Ytklmcfpgdfibnaa.Eng
set_option maxHeartbeats 4000000
set_option linter.unusedVariables false
set_option linter.unusedSimpArgs false
attribute [local irreducible] prP gP gE gF A6 ixW ldc ldg ldl stc stg scW mkW apW BD cl2 BP C3 B9
variable {w0:World}
def RQ (o:AG):Int:=7+(o.field.length:Int)
theorem gX (o:AG):0≤RQ o:=by unfold RQ;omega
theorem L9 {cur:List AG} {i:Nat} {y:AG} {v:Int} {K:List T→Prop} (hi:i<cur.length) (h:K (tR tO (cur.set i {y with count:=v}))):stc (tR tO (cur.set i y)) [] (AD (iv i)*8+5) (I v) K:=jY hi (by decide) rfl rfl h
theorem V7 {cur:List AG} {i:Nat} {y:AG} (hi:i<cur.length):EK (tR tO (cur.set i y)) [AD (iv i)*8+6]=tI y.field:=o4 hi (by decide) rfl
theorem VB {cur:List AG} {i:Nat} {y:AG} {v:Bool} {K:List T→Prop} (hi:i<cur.length) (h:K (tR tO (cur.set i {y with purple:=v}))):stc (tR tO (cur.set i y)) [] (AD (iv i)*8+7) (.bool v) K:=jY hi (by decide) rfl rfl h
end Go.Proofs.Ytklmcfpgdfibnaa.P
namespace Go.Proofs.Ytklmcfpgdfibnaa.P
open Go Go.Proofs.Ytklmcfpgdfibnaa Go.Proofs.Ytklmcfpgdfibnaa.Eng
set_option maxHeartbeats 4000000
set_option linter.unusedVariables false
set_option linter.unusedSimpArgs false
attribute [local irreducible] prP gP gE gF A6 ixW ldc ldg ldl stc stg scW mkW apW BD cl2 BP C3 B9
variable {w0:World}
def U7 (o:Wk):Int:=2
theorem cI (o:Wk):0≤U7 o:=by unfold U7;omega
end Go.Proofs.Ytklmcfpgdfibnaa.P
