/- A part of the proof. -/
import Derived.Test.YtklmcfpgdfibnaaKeEngM6
import Derived.Test.YtklmcfpgdfibnaaKePZ7
import Derived.Laws.Strings
namespace Go.Proofs.Ytklmcfpgdfibnaa.P
open Go Go.Proofs.Ytklmcfpgdfibnaa Go.Proofs.Ytklmcfpgdfibnaa.Eng
set_option linter.unusedVariables false
end Go.Proofs.Ytklmcfpgdfibnaa.P
namespace Go.Proofs.Ytklmcfpgdfibnaa.P
open Go Go.Proofs.Ytklmcfpgdfibnaa Go.Proofs.Ytklmcfpgdfibnaa.Eng
set_option linter.unusedVariables false
end Go.Proofs.Ytklmcfpgdfibnaa.P
