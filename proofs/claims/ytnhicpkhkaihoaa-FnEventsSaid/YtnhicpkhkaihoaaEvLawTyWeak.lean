/- A part of the proof. -/
import Derived.Test.YtnhicpkhkaihoaaEvLawTyObj
namespace Go.Proofs.Ytnhicpkhkaihoaa.P
open Go Go.Proofs.Ytnhicpkhkaihoaa Go.Proofs.Ytnhicpkhkaihoaa.Eng
set_option maxHeartbeats 4000000
set_option linter.unusedVariables false
set_option linter.unusedSimpArgs false
attribute [local irreducible] prP gP gE gF AI ixW ldc ldg ldl stc stg scW mkW apW BG cl2 BZ EZ DS
variable {w0:World}
def T8 (o:Wk):Int:=2
theorem bG (o:Wk):0≤T8 o:=by unfold T8;omega
end Go.Proofs.Ytnhicpkhkaihoaa.P
