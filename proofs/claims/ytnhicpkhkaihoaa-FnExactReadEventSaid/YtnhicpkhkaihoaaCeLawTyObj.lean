/- What the laws' small functions make of rows of Obj. -/
import Derived.Test.YtnhicpkhkaihoaaCeLawGen0
namespace Go.Proofs.Ytnhicpkhkaihoaa.P
open Go Go.Proofs.Ytnhicpkhkaihoaa Go.Proofs.Ytnhicpkhkaihoaa.Eng
set_option maxHeartbeats 4000000
set_option linter.unusedVariables false
set_option linter.unusedSimpArgs false
attribute [local irreducible] prP gP gE gF cndP ixW ldc ldg ldl stc stg scW mkW apW loopP cl2 joinP pre2
variable {w0 : World}
def szHObj (o : HObj) : Int := 7 + (o.field.length : Int)
theorem szHObj_pos (o : HObj) : 0 ≤ szHObj o := by unfold szHObj; omega
end Go.Proofs.Ytnhicpkhkaihoaa.P
