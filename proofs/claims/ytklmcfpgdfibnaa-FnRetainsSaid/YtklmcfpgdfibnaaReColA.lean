/- A part of the proof. -/
import Derived.Test.YtklmcfpgdfibnaaReSchB
import Derived.Test.YtklmcfpgdfibnaaReSchD
namespace Go.Proofs.Ytklmcfpgdfibnaa.P
open Go Go.Proofs.Ytklmcfpgdfibnaa Go.Proofs.Ytklmcfpgdfibnaa.Eng
set_option linter.unusedVariables false
set_option maxHeartbeats 4000000
set_option linter.unusedVariables false
set_option linter.unusedSimpArgs false
attribute [local irreducible] prP gP gE gF AY ixW ldc ldg ldl stc stg scW mkW apW BD cl2 BQ CZ B9
variable {w0:World}
end Go.Proofs.Ytklmcfpgdfibnaa.P
namespace Go.Proofs.Ytklmcfpgdfibnaa.P
open Go Go.Proofs.Ytklmcfpgdfibnaa Go.Proofs.Ytklmcfpgdfibnaa.Eng
set_option linter.unusedVariables false
set_option maxHeartbeats 4000000
set_option linter.unusedVariables false
set_option linter.unusedSimpArgs false
attribute [local irreducible] prP gP gE gF AY ixW ldc ldg ldl stc stg scW mkW apW BD cl2 BQ CZ B9
variable {w0:World}
theorem eL {l:List Int} {p q:Int→Bool} (h: ∀v∈l,q v= !p v):(l.filter p).length+(l.filter q).length=l.length:=by
 induction l with
 | nil=>rfl
 | cons a l ih=>
   have ih:=ih fun v hv=>h v (by simp [hv])
   have ha:=h a (by simp)
   simp only [List.filter_cons,ha]
   cases p a <;> simp <;> omega
end Go.Proofs.Ytklmcfpgdfibnaa.P
