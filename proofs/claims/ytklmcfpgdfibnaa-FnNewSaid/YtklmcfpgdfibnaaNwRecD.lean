/- A part of the proof. -/
import Derived.Test.YtklmcfpgdfibnaaNwRecB
import Derived.Test.YtklmcfpgdfibnaaNwHpFb
namespace Go.Proofs.Ytklmcfpgdfibnaa.P
open Go Go.Proofs.Ytklmcfpgdfibnaa Go.Proofs.Ytklmcfpgdfibnaa.Eng
set_option linter.unusedVariables false
theorem R1 (l:List Op5): ∀n k,k<n→an (C8 l n).2 k=(GX (C8 l k).1 (po l k)).2
 | 0,k,hk=>by omega
 | n+1,k,hk=>by
   simp only [C8]
   have hl:=(LK l n).2
   rcases Nat.lt_or_ge k n with h | h
   ·rw [lL (by omega),R1 l n k h]
   ·have:k=n:=by omega
    subst this
    have e:=pB (C8 l k).2 (GX (C8 l k).1 (po l k)).2
    rwa [hl] at e
end Go.Proofs.Ytklmcfpgdfibnaa.P
