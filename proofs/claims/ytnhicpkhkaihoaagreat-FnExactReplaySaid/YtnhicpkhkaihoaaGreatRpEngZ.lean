/- A part of the proof. -/
import Derived.Test.YtnhicpkhkaihoaaGreatRpEngM6
import Derived.Laws.StructEq
namespace Go.Proofs.YtnhicpkhkaihoaaGreat.Eng
open Go Go.RowKit
set_option linter.unusedVariables false
end Go.Proofs.YtnhicpkhkaihoaaGreat.Eng
