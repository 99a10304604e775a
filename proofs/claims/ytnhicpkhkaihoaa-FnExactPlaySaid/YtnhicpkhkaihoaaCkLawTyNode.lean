/- A part of the proof. -/
import Derived.Test.YtnhicpkhkaihoaaCkLawTyAnswer
namespace Go.Proofs.Ytnhicpkhkaihoaa.P
open Go Go.Proofs.Ytnhicpkhkaihoaa Go.Proofs.Ytnhicpkhkaihoaa.Eng
set_option maxHeartbeats 4000000
set_option linter.unusedVariables false
set_option linter.unusedSimpArgs false
attribute [local irreducible] prP gP gE gF AU ixW ldc ldg ldl stc stg scW mkW apW BD cl2 BW FR DK
variable {w0:World}
def fH (o:Nd):Int:=5+(o.field.length:Int)
theorem mD (o:Nd):0≤fH o:=by unfold fH;omega
end Go.Proofs.Ytnhicpkhkaihoaa.P
