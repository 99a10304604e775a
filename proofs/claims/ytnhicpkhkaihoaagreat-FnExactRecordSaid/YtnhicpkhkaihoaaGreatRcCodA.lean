/- A part of the proof. -/
import Derived.Test.YtnhicpkhkaihoaaGreatRcHpX
namespace Go.Proofs.YtnhicpkhkaihoaaGreat.P
open Go Go.Proofs.YtnhicpkhkaihoaaGreat Go.Proofs.YtnhicpkhkaihoaaGreat.Eng
set_option linter.unusedVariables false
def tl:Int→List Int→ByteArray
 | _,[]=>⟨#[]⟩
 | b,x::xs=>SI (x-b)++tl x xs
end Go.Proofs.YtnhicpkhkaihoaaGreat.P
