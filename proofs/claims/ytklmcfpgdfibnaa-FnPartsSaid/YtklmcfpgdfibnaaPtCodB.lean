/- A part of the proof. -/
import Derived.Test.YtklmcfpgdfibnaaPtCodA
namespace Go.Proofs.Ytklmcfpgdfibnaa.P
open Go Go.Proofs.Ytklmcfpgdfibnaa Go.Proofs.Ytklmcfpgdfibnaa.Eng
set_option linter.unusedVariables false
theorem oB {l:List Op5} {i k:Nat} (h:k<i):po (l.take i) k=po l k:=by
 unfold po;rw [List.getD_eq_getElem?_getD,List.getElem?_take_of_lt h,List.getD_eq_getElem?_getD]
theorem m1 {l:List An} {x:An} {i:Nat} (h:i<l.length):an (l++[x]) i=an l i:=by unfold an;rw [List.getD_eq_getElem?_getD,List.getElem?_append_left h,List.getD_eq_getElem?_getD]
theorem pH (l:List An) (x:An):an (l++[x]) l.length=x:=by unfold an;rw [List.getD_eq_getElem?_getD,List.getElem?_append_right (Nat.le_refl _)];simp
end Go.Proofs.Ytklmcfpgdfibnaa.P
