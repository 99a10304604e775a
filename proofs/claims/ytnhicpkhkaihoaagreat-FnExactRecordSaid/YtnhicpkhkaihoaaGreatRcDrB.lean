/- A part of the proof. -/
import Derived.Test.YtnhicpkhkaihoaaGreatRcDrA
import Derived.Test.YtnhicpkhkaihoaaGreatRcTxtJ
namespace Go.Proofs.YtnhicpkhkaihoaaGreat.P
open Go Go.Proofs.YtnhicpkhkaihoaaGreat Go.Proofs.YtnhicpkhkaihoaaGreat.Eng
set_option linter.unusedVariables false
set_option maxHeartbeats 4000000
set_option linter.unusedVariables false
set_option linter.unusedSimpArgs false
attribute [local irreducible] prP gP gE gF AG ixW ldc ldg ldl stc stg scW mkW apW BB cl2 BY FT DG
variable {w0:World}
end Go.Proofs.YtnhicpkhkaihoaaGreat.P
