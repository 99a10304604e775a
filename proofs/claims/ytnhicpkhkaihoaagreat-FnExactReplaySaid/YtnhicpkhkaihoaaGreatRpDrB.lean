/- A part of the proof. -/
import Derived.Test.YtnhicpkhkaihoaaGreatRpDrA
import Derived.Test.YtnhicpkhkaihoaaGreatRpTxtJ
namespace Go.Proofs.YtnhicpkhkaihoaaGreat.P
open Go Go.Proofs.YtnhicpkhkaihoaaGreat Go.Proofs.YtnhicpkhkaihoaaGreat.Eng
set_option linter.unusedVariables false
set_option maxHeartbeats 4000000
set_option linter.unusedVariables false
set_option linter.unusedSimpArgs false
attribute [local irreducible] prP gP gE gF AG ixW ldc ldg ldl stc stg scW mkW apW BA cl2 B6 G8 C3
variable {w0:World}
end Go.Proofs.YtnhicpkhkaihoaaGreat.P
