/- Heaps: ids, slots, what is held. -/
import Derived.Test.YtnhicpkhkaihoaaCeLawHp
namespace Go.Proofs.Ytnhicpkhkaihoaa.P
open Go Go.Proofs.Ytnhicpkhkaihoaa Go.Proofs.Ytnhicpkhkaihoaa.Eng
set_option maxHeartbeats 4000000
set_option linter.unusedVariables false
set_option linter.unusedSimpArgs false
attribute [local irreducible] prP gP gE gF cndP ixW ldc ldg ldl stc stg scW mkW apW loopP cl2 joinP pre2 selW
variable {w0 : World}
/-! ### Models -/
def pick {α : Type} (f : Nat → List α) : Nat → List α
  | 0 => []
  | n + 1 => pick f n ++ f n
def idOf (s g : Int) : Int := if (0 ≤ s ∧ s ≤ 7) ∧ 1 ≤ g ∧ g ≤ 999 then s + 8 * g else -1
end Go.Proofs.Ytnhicpkhkaihoaa.P
