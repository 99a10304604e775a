/- A part of the proof. -/
import Derived.Test.YtklmcfpgdfibnaaPtDrB
import Derived.Test.YtklmcfpgdfibnaaPtCodA
import Derived.Test.YtklmcfpgdfibnaaPtRowB
namespace Go.Proofs.Ytklmcfpgdfibnaa.P
open Go Go.Proofs.Ytklmcfpgdfibnaa Go.Proofs.Ytklmcfpgdfibnaa.Eng
set_option linter.unusedVariables false
set_option maxHeartbeats 4000000
set_option linter.unusedVariables false
set_option linter.unusedSimpArgs false
attribute [local irreducible] prP gP gE gF AW ixW ldc ldg ldl stc stg scW mkW apW BK cl2 BW EI CM
variable {w0:World}
theorem dG {L:List Int} {K:J2} (h:K [.bool (decide ((L.length:Int)>1048576))] []):cl2 ⟨Try.prog,w0⟩ 17 JG.sg [] [tY L] K:=by
 refine JG.cl2 ?_
 unfold JG.txt
 rw [Z0]
 exact IF h
end Go.Proofs.Ytklmcfpgdfibnaa.P
