/- What the laws' small functions make of rows of Weak. -/
import Derived.Test.YtnhicpkhkaihoaaCeLawTyObj
namespace Go.Proofs.Ytnhicpkhkaihoaa.P
open Go Go.Proofs.Ytnhicpkhkaihoaa Go.Proofs.Ytnhicpkhkaihoaa.Eng
set_option maxHeartbeats 4000000
set_option linter.unusedVariables false
set_option linter.unusedSimpArgs false
attribute [local irreducible] prP gP gE gF cndP ixW ldc ldg ldl stc stg scW mkW apW loopP cl2 joinP pre2
variable {w0 : World}
def szWk (o : Wk) : Int := 2
theorem szWk_pos (o : Wk) : 0 ≤ szWk o := by unfold szWk; omega
end Go.Proofs.Ytnhicpkhkaihoaa.P
