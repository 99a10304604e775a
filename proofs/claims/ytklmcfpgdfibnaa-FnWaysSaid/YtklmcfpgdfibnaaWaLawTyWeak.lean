/- A part of the proof. -/
import Derived.Test.YtklmcfpgdfibnaaWaLawGen0
namespace Go.Proofs.Ytklmcfpgdfibnaa.P
open Go Go.Proofs.Ytklmcfpgdfibnaa Go.Proofs.Ytklmcfpgdfibnaa.Eng
set_option maxHeartbeats 4000000
set_option linter.unusedVariables false
set_option linter.unusedSimpArgs false
attribute [local irreducible] prP gP gE gF AX ixW ldc ldg ldl stc stg scW mkW apW BE cl2 BK C2 CI
variable {w0:World}
def QU (o:AE):Int:=7+(o.field.length:Int)
theorem dA (o:AE):0≤QU o:=by unfold QU;omega
theorem KP {cur:List AE} {i:Nat} {y:AE} {v:Int} {K:List T→Prop} (hi:i<cur.length) (h:K (tR tO (cur.set i {y with count:=v}))):stc (tR tO (cur.set i y)) [] (AD (iv i)*8+5) (I v) K:=eU hi (by decide) rfl rfl h
theorem WJ {cur:List AE} {i:Nat} {y:AE} (hi:i<cur.length):FJ (tR tO (cur.set i y)) [AD (iv i)*8+6]=tI y.field:=mN hi (by decide) rfl
theorem TM {cur:List AE} {i:Nat} {y:AE} {v:Bool} {K:List T→Prop} (hi:i<cur.length) (h:K (tR tO (cur.set i {y with purple:=v}))):stc (tR tO (cur.set i y)) [] (AD (iv i)*8+7) (.bool v) K:=eU hi (by decide) rfl rfl h
end Go.Proofs.Ytklmcfpgdfibnaa.P
namespace Go.Proofs.Ytklmcfpgdfibnaa.P
open Go Go.Proofs.Ytklmcfpgdfibnaa Go.Proofs.Ytklmcfpgdfibnaa.Eng
set_option maxHeartbeats 4000000
set_option linter.unusedVariables false
set_option linter.unusedSimpArgs false
attribute [local irreducible] prP gP gE gF AX ixW ldc ldg ldl stc stg scW mkW apW BE cl2 BK C2 CI
variable {w0:World}
def TO (o:Wk):Int:=2
theorem aO (o:Wk):0≤TO o:=by unfold TO;omega
end Go.Proofs.Ytklmcfpgdfibnaa.P
