/- A part of the proof. -/
import Derived.Test.YthapfcoajahegaaDoorReEngM6
import Derived.Test.YthapfcoajahegaaDoorRePZ1
import Derived.Laws.Strings
namespace Go.Proofs.YthapfcoajahegaaDoor.P
open Go Go.Proofs.YthapfcoajahegaaDoor Go.Proofs.YthapfcoajahegaaDoor.Eng
set_option linter.unusedVariables false
end Go.Proofs.YthapfcoajahegaaDoor.P
namespace Go.Proofs.YthapfcoajahegaaDoor.P
open Go Go.Proofs.YthapfcoajahegaaDoor Go.Proofs.YthapfcoajahegaaDoor.Eng
set_option linter.unusedVariables false
end Go.Proofs.YthapfcoajahegaaDoor.P
