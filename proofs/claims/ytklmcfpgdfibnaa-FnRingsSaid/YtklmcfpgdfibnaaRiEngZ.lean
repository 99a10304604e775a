/- A part of the proof. -/
import Derived.Test.YtklmcfpgdfibnaaRiEngM6
import Derived.Laws.StructEq
namespace Go.Proofs.Ytklmcfpgdfibnaa.Eng
open Go Go.RowKit
set_option linter.unusedVariables false
end Go.Proofs.Ytklmcfpgdfibnaa.Eng
