/- A part of the proof. -/
import Derived.Test.YtnhicpkhkaihoaaEvEngM6
import Derived.Test.YtnhicpkhkaihoaaEvPZ6
import Derived.Laws.Strings
namespace Go.Proofs.Ytnhicpkhkaihoaa.P
open Go Go.Proofs.Ytnhicpkhkaihoaa Go.Proofs.Ytnhicpkhkaihoaa.Eng
set_option linter.unusedVariables false
end Go.Proofs.Ytnhicpkhkaihoaa.P
namespace Go.Proofs.Ytnhicpkhkaihoaa.P
open Go Go.Proofs.Ytnhicpkhkaihoaa Go.Proofs.Ytnhicpkhkaihoaa.Eng
set_option linter.unusedVariables false
end Go.Proofs.Ytnhicpkhkaihoaa.P
