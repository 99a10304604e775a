/- A part of the proof. -/
import Derived.Test.YtnhicpkhkaihoaaGreatRcCodA
namespace Go.Proofs.YtnhicpkhkaihoaaGreat.P
open Go Go.Proofs.YtnhicpkhkaihoaaGreat Go.Proofs.YtnhicpkhkaihoaaGreat.Eng
set_option linter.unusedVariables false
end Go.Proofs.YtnhicpkhkaihoaaGreat.P
