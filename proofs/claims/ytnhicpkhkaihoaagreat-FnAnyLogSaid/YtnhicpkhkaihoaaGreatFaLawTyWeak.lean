/- A part of the proof. -/
import Derived.Test.YtnhicpkhkaihoaaGreatFaLawTyObj
namespace Go.Proofs.YtnhicpkhkaihoaaGreat.P
open Go Go.Proofs.YtnhicpkhkaihoaaGreat Go.Proofs.YtnhicpkhkaihoaaGreat.Eng
set_option maxHeartbeats 4000000
set_option linter.unusedVariables false
set_option linter.unusedSimpArgs false
attribute [local irreducible] prP gP gE gF AU ixW ldc ldg ldl stc stg scW mkW apW BG cl2 BX GP CZ
variable {w0:World}
def X5 (o:Wk):Int:=2
theorem kY (o:Wk):0≤X5 o:=by unfold X5;omega
end Go.Proofs.YtnhicpkhkaihoaaGreat.P
