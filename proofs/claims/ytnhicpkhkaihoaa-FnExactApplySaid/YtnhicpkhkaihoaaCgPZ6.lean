/- A part of the proof. -/
import Derived.Test.YtnhicpkhkaihoaaChecked
import Derived.Test.YtnhicpkhkaihoaaCgPZ5
import Derived.KernelRfl
/- The functions of the code as the pure engine's texts, printed by my program gen2.py: each with its call. -/
namespace Go.Proofs.Ytnhicpkhkaihoaa.P
open Go Go.Proofs.Ytnhicpkhkaihoaa Go.Proofs.Ytnhicpkhkaihoaa.Eng
set_option linter.unusedVariables false
set_option maxRecDepth 100000
end Go.Proofs.Ytnhicpkhkaihoaa.P
