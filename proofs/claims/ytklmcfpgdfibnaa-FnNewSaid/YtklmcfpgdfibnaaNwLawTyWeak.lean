/- A part of the proof. -/
import Derived.Test.YtklmcfpgdfibnaaNwLawTyObj
namespace Go.Proofs.Ytklmcfpgdfibnaa.P
open Go Go.Proofs.Ytklmcfpgdfibnaa Go.Proofs.Ytklmcfpgdfibnaa.Eng
set_option maxHeartbeats 4000000
set_option linter.unusedVariables false
set_option linter.unusedSimpArgs false
attribute [local irreducible] prP gP gE gF AV ixW ldc ldg ldl stc stg scW mkW apW BL cl2 BS EC CX
variable {w0:World}
def TI (o:Wk):Int:=2
theorem bA (o:Wk):0≤TI o:=by unfold TI;omega
end Go.Proofs.Ytklmcfpgdfibnaa.P
