/- A part of the proof. -/
import Derived.Test.YtklmcfpgdfibnaaRiEngM6
import Derived.Test.YtklmcfpgdfibnaaRiPZ7
import Derived.Laws.Strings
namespace Go.Proofs.Ytklmcfpgdfibnaa.P
open Go Go.Proofs.Ytklmcfpgdfibnaa Go.Proofs.Ytklmcfpgdfibnaa.Eng
set_option linter.unusedVariables false
end Go.Proofs.Ytklmcfpgdfibnaa.P
namespace Go.Proofs.Ytklmcfpgdfibnaa.P
open Go Go.Proofs.Ytklmcfpgdfibnaa Go.Proofs.Ytklmcfpgdfibnaa.Eng
set_option linter.unusedVariables false
end Go.Proofs.Ytklmcfpgdfibnaa.P
