/- A part of the proof. -/
import Derived.Test.YtnhicpkhkaihoaaCgLawTyWeak
/- What the laws' small functions make of rows of Op. -/
namespace Go.Proofs.Ytnhicpkhkaihoaa.P
open Go Go.Proofs.Ytnhicpkhkaihoaa Go.Proofs.Ytnhicpkhkaihoaa.Eng
set_option maxHeartbeats 4000000
set_option linter.unusedVariables false
set_option linter.unusedSimpArgs false
attribute [local irreducible] prP gP gE gF cndP ixW ldc ldg ldl stc stg scW mkW apW loopP cl2 joinP pre2 selW
variable {w0 : World}
theorem laws_toOp_c {o : Op5} {K : J2} (h : K [I o.kind, I o.a, I o.b, I o.c, .string o.site] []) : cl2 ⟨Try.prog, w0⟩ 63 laws_toOp.sg [I o.kind, I o.a, I o.b, I o.c, .string o.site] [] K :=
  laws_toOp.cl2 h
end Go.Proofs.Ytnhicpkhkaihoaa.P
