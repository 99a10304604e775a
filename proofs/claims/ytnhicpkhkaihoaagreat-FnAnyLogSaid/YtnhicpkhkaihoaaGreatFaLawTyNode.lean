/- A part of the proof. -/
import Derived.Test.YtnhicpkhkaihoaaGreatFaLawTyAnswer
namespace Go.Proofs.YtnhicpkhkaihoaaGreat.P
open Go Go.Proofs.YtnhicpkhkaihoaaGreat Go.Proofs.YtnhicpkhkaihoaaGreat.Eng
set_option maxHeartbeats 4000000
set_option linter.unusedVariables false
set_option linter.unusedSimpArgs false
attribute [local irreducible] prP gP gE gF AU ixW ldc ldg ldl stc stg scW mkW apW BG cl2 BX GP CZ
variable {w0:World}
def nM (o:Nd):Int:=5+(o.field.length:Int)
theorem tT (o:Nd):0≤nM o:=by unfold nM;omega
end Go.Proofs.YtnhicpkhkaihoaaGreat.P
