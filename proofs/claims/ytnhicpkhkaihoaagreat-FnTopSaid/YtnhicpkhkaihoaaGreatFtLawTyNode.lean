/- A part of the proof. -/
import Derived.Test.YtnhicpkhkaihoaaGreatFtLawTyAnswer
namespace Go.Proofs.YtnhicpkhkaihoaaGreat.P
open Go Go.Proofs.YtnhicpkhkaihoaaGreat Go.Proofs.YtnhicpkhkaihoaaGreat.Eng
set_option maxHeartbeats 4000000
set_option linter.unusedVariables false
set_option linter.unusedSimpArgs false
attribute [local irreducible] prP gP gE gF AV ixW ldc ldg ldl stc stg scW mkW apW BC cl2 BW F6 C2
variable {w0:World}
def lR (o:Nd):Int:=5+(o.field.length:Int)
theorem rP (o:Nd):0≤lR o:=by unfold lR;omega
end Go.Proofs.YtnhicpkhkaihoaaGreat.P
