/- A part of the proof. -/
import Derived.Test.YtklmcfpgdfibnaaWaSchC
namespace Go.Proofs.Ytklmcfpgdfibnaa.P
open Go Go.Proofs.Ytklmcfpgdfibnaa Go.Proofs.Ytklmcfpgdfibnaa.Eng
set_option linter.unusedVariables false
set_option maxHeartbeats 4000000
set_option linter.unusedVariables false
set_option linter.unusedSimpArgs false
attribute [local irreducible] prP gP gE gF AX ixW ldc ldg ldl stc stg scW mkW apW BE cl2 BK C2 CI
variable {w0:World}
end Go.Proofs.Ytklmcfpgdfibnaa.P
