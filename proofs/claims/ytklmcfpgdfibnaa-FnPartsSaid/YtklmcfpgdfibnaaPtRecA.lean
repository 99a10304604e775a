/- A part of the proof. -/
import Derived.Test.YtklmcfpgdfibnaaPtDrB
import Derived.Test.YtklmcfpgdfibnaaPtCodB
namespace Go.Proofs.Ytklmcfpgdfibnaa.P
open Go Go.Proofs.Ytklmcfpgdfibnaa Go.Proofs.Ytklmcfpgdfibnaa.Eng
set_option linter.unusedVariables false
set_option maxHeartbeats 4000000
set_option linter.unusedVariables false
set_option linter.unusedSimpArgs false
attribute [local irreducible] prP gP gE gF AW ixW ldc ldg ldl stc stg scW mkW apW BK cl2 BW EI CM
variable {w0:World}
theorem aJ {l:List Op5} (ho: ∀o∈l,OpF o): ∀i,i≤l.length→ ∀a∈(C2 l i).2,a.freed.length≤9
 | 0,_=>by simp [C2]
 | i+1,hi=>fun a ha=>by
   simp only [C2] at ha
   rcases List.mem_append.1 ha with ha | ha
   ·exact aJ ho i (by omega) a ha
   ·have ha:a=(HC (C2 l i).1 (po l i)).2:=by simpa using ha
    subst ha
    have ok:=(H9 l i).1
    exact (nZ (ok.st ok.kG) (by rw [←gB (by omega)];exact (ho _ (List.getElem_mem _)).c)).fr
noncomputable def agr (ops:List Op5) (ans:List An):Nat→Nat
 | 0=>0
 | i+1=>if agr ops ans i=i∧(HC (C2 ops i).1 (po ops i)).2=an ans i then i+1 else agr ops ans i
structure RB2 where
 code:Int
 n:Nat
 hp:Hp
 ops:List Op5
 ans:List An
end Go.Proofs.Ytklmcfpgdfibnaa.P
