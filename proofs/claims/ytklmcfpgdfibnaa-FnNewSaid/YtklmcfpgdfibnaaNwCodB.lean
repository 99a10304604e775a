/- A part of the proof. -/
import Derived.Test.YtklmcfpgdfibnaaNwCodA
namespace Go.Proofs.Ytklmcfpgdfibnaa.P
open Go Go.Proofs.Ytklmcfpgdfibnaa Go.Proofs.Ytklmcfpgdfibnaa.Eng
set_option linter.unusedVariables false
theorem lL {l:List An} {x:An} {i:Nat} (h:i<l.length):an (l++[x]) i=an l i:=by unfold an;rw [List.getD_eq_getElem?_getD,List.getElem?_append_left h,List.getD_eq_getElem?_getD]
theorem pB (l:List An) (x:An):an (l++[x]) l.length=x:=by unfold an;rw [List.getD_eq_getElem?_getD,List.getElem?_append_right (Nat.le_refl _)];simp
end Go.Proofs.Ytklmcfpgdfibnaa.P
