/- A part of the proof. -/
import Derived.Test.YtnhicpkhkaihoaaCgLawTyAnswer
/- What the laws' small functions make of rows of Node. -/
namespace Go.Proofs.Ytnhicpkhkaihoaa.P
open Go Go.Proofs.Ytnhicpkhkaihoaa Go.Proofs.Ytnhicpkhkaihoaa.Eng
set_option maxHeartbeats 4000000
set_option linter.unusedVariables false
set_option linter.unusedSimpArgs false
attribute [local irreducible] prP gP gE gF cndP ixW ldc ldg ldl stc stg scW mkW apW loopP cl2 joinP pre2 selW
variable {w0 : World}
def szNd (o : Nd) : Int := 5 + (o.field.length : Int)
theorem szNd_pos (o : Nd) : 0 ≤ szNd o := by unfold szNd; omega
end Go.Proofs.Ytnhicpkhkaihoaa.P
