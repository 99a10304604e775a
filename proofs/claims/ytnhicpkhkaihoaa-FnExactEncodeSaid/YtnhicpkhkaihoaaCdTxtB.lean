/- Rows of texts: what the laws' small functions make of them. -/
import Derived.Test.YtnhicpkhkaihoaaCdTxtA
import Derived.Laws.Strings
namespace Go.Proofs.Ytnhicpkhkaihoaa.P
open Go Go.Proofs.Ytnhicpkhkaihoaa Go.Proofs.Ytnhicpkhkaihoaa.Eng
set_option linter.unusedVariables false
end Go.Proofs.Ytnhicpkhkaihoaa.P
