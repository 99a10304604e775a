/- A part of the proof. -/
import Derived.Test.YtnhicpkhkaihoaaCgLawTyOp
/- What the laws' small functions make of rows of Answer. -/
namespace Go.Proofs.Ytnhicpkhkaihoaa.P
open Go Go.Proofs.Ytnhicpkhkaihoaa Go.Proofs.Ytnhicpkhkaihoaa.Eng
set_option maxHeartbeats 4000000
set_option linter.unusedVariables false
set_option linter.unusedSimpArgs false
attribute [local irreducible] prP gP gE gF cndP ixW ldc ldg ldl stc stg scW mkW apW loopP cl2 joinP pre2 selW
variable {w0 : World}
theorem laws_eqAnswer_c {o : An} {K : J2} (h_freed : (o.freed.length : Int) < 2 ^ 62) (h : K [.bool true] []) : cl2 ⟨Try.prog, w0⟩ 37 laws_eqAnswer.sg [I o.code, I o.val, I o.code, I o.val] [tI o.freed, tI o.freed] K := by
  refine laws_eqAnswer.cl2 ?_
  unfold laws_eqAnswer.txt
  repeat' (first | refine laws_eqIntS_c h_freed ?_ | refine cndP_no (fun h => h rfl) ?_ | refine cndP_F ?_ | refine prP_ned ?_ | refine prP_not ?_)
  exact h
end Go.Proofs.Ytnhicpkhkaihoaa.P
