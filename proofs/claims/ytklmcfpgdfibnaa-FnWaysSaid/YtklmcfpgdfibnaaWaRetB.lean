/- A part of the proof. -/
import Derived.Test.YtklmcfpgdfibnaaWaRetA
namespace Go.Proofs.Ytklmcfpgdfibnaa.P
open Go Go.Proofs.Ytklmcfpgdfibnaa Go.Proofs.Ytklmcfpgdfibnaa.Eng
set_option linter.unusedVariables false
set_option maxHeartbeats 4000000
set_option linter.unusedVariables false
set_option linter.unusedSimpArgs false
attribute [local irreducible] prP gP gE gF AX ixW ldc ldg ldl stc stg scW mkW apW BE cl2 BK C2 CI
variable {w0:World}
theorem mY {x:Hp} (hk:BW x) {k m:Nat} (k8:k<8) (kv:(ob x.AB k).live=true) (m8:m<8) (mv:(ob x.AB m).live=true) (h:B6 k (ob x.AB k).gen=B6 m (ob x.AB m).gen):k=m:=by
 have a:=QX hk k8 kv
 rw [h,QX hk m8 mv] at a
 omega
end Go.Proofs.Ytklmcfpgdfibnaa.P
