/- A part of the proof. -/
import Derived.Test.YthapfcoajahegaaDoorReEngM6
import Derived.Laws.StructEq
namespace Go.Proofs.YthapfcoajahegaaDoor.Eng
open Go Go.RowKit
set_option linter.unusedVariables false
end Go.Proofs.YthapfcoajahegaaDoor.Eng
