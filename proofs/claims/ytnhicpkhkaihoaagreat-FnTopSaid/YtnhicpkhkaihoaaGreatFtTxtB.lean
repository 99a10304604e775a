/- A part of the proof. -/
import Derived.Test.YtnhicpkhkaihoaaGreatFtEngM6
import Derived.Test.YtnhicpkhkaihoaaGreatFtPZ5
import Derived.Laws.Strings
namespace Go.Proofs.YtnhicpkhkaihoaaGreat.P
open Go Go.Proofs.YtnhicpkhkaihoaaGreat Go.Proofs.YtnhicpkhkaihoaaGreat.Eng
set_option linter.unusedVariables false
end Go.Proofs.YtnhicpkhkaihoaaGreat.P
namespace Go.Proofs.YtnhicpkhkaihoaaGreat.P
open Go Go.Proofs.YtnhicpkhkaihoaaGreat Go.Proofs.YtnhicpkhkaihoaaGreat.Eng
set_option linter.unusedVariables false
end Go.Proofs.YtnhicpkhkaihoaaGreat.P
