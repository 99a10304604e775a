/- A part of the proof. -/
import Derived.Test.YtklmcfpgdfibnaaPtRecB
import Derived.Test.YtklmcfpgdfibnaaPtHpFb
namespace Go.Proofs.Ytklmcfpgdfibnaa.P
open Go Go.Proofs.Ytklmcfpgdfibnaa Go.Proofs.Ytklmcfpgdfibnaa.Eng
set_option linter.unusedVariables false
theorem YP (l:List Op5): ∀n k,k<n→an (C2 l n).2 k=(HC (C2 l k).1 (po l k)).2
 | 0,k,hk=>by omega
 | n+1,k,hk=>by
   simp only [C2]
   have hl:=(H9 l n).2
   rcases Nat.lt_or_ge k n with h | h
   ·rw [m1 (by omega),YP l n k h]
   ·have:k=n:=by omega
    subst this
    have e:=pH (C2 l k).2 (HC (C2 l k).1 (po l k)).2
    rwa [hl] at e
end Go.Proofs.Ytklmcfpgdfibnaa.P
