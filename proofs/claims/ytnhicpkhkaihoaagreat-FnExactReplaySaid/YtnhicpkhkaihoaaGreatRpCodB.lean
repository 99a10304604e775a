/- A part of the proof. -/
import Derived.Test.YtnhicpkhkaihoaaGreatRpCodA
namespace Go.Proofs.YtnhicpkhkaihoaaGreat.P
open Go Go.Proofs.YtnhicpkhkaihoaaGreat Go.Proofs.YtnhicpkhkaihoaaGreat.Eng
set_option linter.unusedVariables false
theorem qB {l:List Op5} {i:Nat} (h:i<l.length):l.take (i+1)=l.take i++[po l i]:=by rw [List.take_succ_eq_append_getElem h,l6 h]
end Go.Proofs.YtnhicpkhkaihoaaGreat.P
