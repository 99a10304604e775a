/- A part of the proof. -/
import Derived.Test.YtklmcfpgdfibnaaNwDrB
import Derived.Test.YtklmcfpgdfibnaaNwCodB
namespace Go.Proofs.Ytklmcfpgdfibnaa.P
open Go Go.Proofs.Ytklmcfpgdfibnaa Go.Proofs.Ytklmcfpgdfibnaa.Eng
set_option linter.unusedVariables false
set_option maxHeartbeats 4000000
set_option linter.unusedVariables false
set_option linter.unusedSimpArgs false
attribute [local irreducible] prP gP gE gF AV ixW ldc ldg ldl stc stg scW mkW apW BL cl2 BS EC CX
variable {w0:World}
noncomputable def agr (ops:List Op5) (ans:List An):Nat→Nat
 | 0=>0
 | i+1=>if agr ops ans i=i∧(GX (C8 ops i).1 (po ops i)).2=an ans i then i+1 else agr ops ans i
structure RB2 where
 code:Int
 n:Nat
 hp:Hp
 ops:List Op5
 ans:List An
end Go.Proofs.Ytklmcfpgdfibnaa.P
