/- A part of the proof. -/
import Derived.Test.YthapfcoajahegaaAlEngM6
import Derived.Laws.StructEq
namespace Go.Proofs.Ythapfcoajahegaa.Eng
open Go Go.RowKit
set_option linter.unusedVariables false
end Go.Proofs.Ythapfcoajahegaa.Eng
