/- A part of the proof. -/
import Derived.Test.YtnhicpkhkaihoaaGreatFtDrB
import Derived.Test.YtnhicpkhkaihoaaGreatFtCodA
import Derived.Test.YtnhicpkhkaihoaaGreatFtRowB
namespace Go.Proofs.YtnhicpkhkaihoaaGreat.P
open Go Go.Proofs.YtnhicpkhkaihoaaGreat Go.Proofs.YtnhicpkhkaihoaaGreat.Eng
set_option linter.unusedVariables false
set_option maxHeartbeats 4000000
set_option linter.unusedVariables false
set_option linter.unusedSimpArgs false
attribute [local irreducible] prP gP gE gF AV ixW ldc ldg ldl stc stg scW mkW apW BC cl2 BW F6 C2
variable {w0:World}
theorem m0 {L:List Int} {K:J2} (h:K [.bool (decide ((L.length:Int)>1048576))] []):cl2 ⟨Tryz.prog,w0⟩ 7 L6.sg [] [tY L] K:=by
 refine L6.cl2 ?_
 unfold L6.txt
 rw [mF]
 exact GN h
end Go.Proofs.YtnhicpkhkaihoaaGreat.P
