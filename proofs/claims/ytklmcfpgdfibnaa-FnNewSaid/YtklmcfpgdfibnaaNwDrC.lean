/- A part of the proof. -/
import Derived.Test.YtklmcfpgdfibnaaNwDrB
import Derived.Test.YtklmcfpgdfibnaaNwCodA
import Derived.Test.YtklmcfpgdfibnaaNwRowB
namespace Go.Proofs.Ytklmcfpgdfibnaa.P
open Go Go.Proofs.Ytklmcfpgdfibnaa Go.Proofs.Ytklmcfpgdfibnaa.Eng
set_option linter.unusedVariables false
set_option maxHeartbeats 4000000
set_option linter.unusedVariables false
set_option linter.unusedSimpArgs false
attribute [local irreducible] prP gP gE gF AV ixW ldc ldg ldl stc stg scW mkW apW BL cl2 BS EC CX
variable {w0:World}
theorem cO {L:List Int} {K:J2} (h:K [.bool (decide ((L.length:Int)>1048576))] []):cl2 ⟨Try.prog,w0⟩ 17 JF.sg [] [tY L] K:=by
 refine JF.cl2 ?_
 unfold JF.txt
 rw [cE]
 exact IJ h
end Go.Proofs.Ytklmcfpgdfibnaa.P
