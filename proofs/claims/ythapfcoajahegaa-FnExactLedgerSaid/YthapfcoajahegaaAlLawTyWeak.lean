/- A part of the proof. -/
import Derived.Test.YthapfcoajahegaaAlLawGen0
namespace Go.Proofs.Ythapfcoajahegaa.P
open Go Go.Proofs.Ythapfcoajahegaa Go.Proofs.Ythapfcoajahegaa.Eng
set_option maxHeartbeats 4000000
set_option linter.unusedVariables false
set_option linter.unusedSimpArgs false
attribute [local irreducible] prP gP gE gF AH ixW ldc ldg ldl stc stg scW mkW apW AP cl2 AX C9 BW
variable {w0:World}
def P9 (o:AE):Int:=7+(o.field.length:Int)
theorem cV (o:AE):0≤P9 o:=by unfold P9;omega
end Go.Proofs.Ythapfcoajahegaa.P
namespace Go.Proofs.Ythapfcoajahegaa.P
open Go Go.Proofs.Ythapfcoajahegaa Go.Proofs.Ythapfcoajahegaa.Eng
set_option maxHeartbeats 4000000
set_option linter.unusedVariables false
set_option linter.unusedSimpArgs false
attribute [local irreducible] prP gP gE gF AH ixW ldc ldg ldl stc stg scW mkW apW AP cl2 AX C9 BW
variable {w0:World}
def SR (o:Wk):Int:=2
theorem bI (o:Wk):0≤SR o:=by unfold SR;omega
end Go.Proofs.Ythapfcoajahegaa.P
