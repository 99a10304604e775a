/- A part of the proof. -/
import Derived.Test.YtklmcfpgdfibnaaPtRecA
namespace Go.Proofs.Ytklmcfpgdfibnaa.P
open Go Go.Proofs.Ytklmcfpgdfibnaa Go.Proofs.Ytklmcfpgdfibnaa.Eng
set_option linter.unusedVariables false
set_option maxHeartbeats 4000000
set_option linter.unusedVariables false
set_option linter.unusedSimpArgs false
attribute [local irreducible] prP gP gE gF AW ixW ldc ldg ldl stc stg scW mkW apW BK cl2 BW EI CM
variable {w0:World}
theorem qM (o:An):tv (nxT (tA o) 0)=I o.code:=rfl
theorem rE (o:An):tv (nxT (tA o) 1)=I o.val:=rfl
end Go.Proofs.Ytklmcfpgdfibnaa.P
