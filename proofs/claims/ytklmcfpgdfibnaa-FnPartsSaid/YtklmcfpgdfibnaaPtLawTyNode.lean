/- A part of the proof. -/
import Derived.Test.YtklmcfpgdfibnaaPtLawTyAnswer
namespace Go.Proofs.Ytklmcfpgdfibnaa.P
open Go Go.Proofs.Ytklmcfpgdfibnaa Go.Proofs.Ytklmcfpgdfibnaa.Eng
set_option maxHeartbeats 4000000
set_option linter.unusedVariables false
set_option linter.unusedSimpArgs false
attribute [local irreducible] prP gP gE gF AW ixW ldc ldg ldl stc stg scW mkW apW BK cl2 BW EI CM
variable {w0:World}
def dU (o:Nd):Int:=5+(o.field.length:Int)
theorem l8 (o:Nd):0≤dU o:=by unfold dU;omega
end Go.Proofs.Ytklmcfpgdfibnaa.P
