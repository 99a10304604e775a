/- A part of the proof. -/
import Derived.Test.YtnhicpkhkaihoaaGreatFaPlA
import Derived.Test.YtnhicpkhkaihoaaGreatChecked
import Derived.Test.YtnhicpkhkaihoaaGreatFaEngM2
import Derived.KernelRfl
namespace Go.Proofs.YtnhicpkhkaihoaaGreat.P
open Go Go.Proofs.YtnhicpkhkaihoaaGreat Go.Proofs.YtnhicpkhkaihoaaGreat.Eng
set_option linter.unusedVariables false
set_option maxRecDepth 100000
theorem wQ {α:Type} {f:α→List T} {e:Nat} [hr:Rw f e] {l:List α} {i:Nat} (hi:i<l.length) {c:Nat} {t:T} {y:α} {K:List T→Prop} (hc:c<e) (hy:f y=(f l[i]).set c t) (h:K (tR f (l.set i y))):stg (tR f l) [] (AA (iv i)*e+c) [t] K:=by
 rw [A8]
 have hlt:i*e+c<(tR f l).length:=by
  rw [bZ]
  have:(i+1)*e≤l.length*e:=Nat.mul_le_mul_right _ hi
  rw [Nat.add_mul] at this;omega
 refine ⟨⟨_,rfl, ?_⟩, ?_⟩
 ·simp only [List.length_singleton];omega
 ·have:P5 (tR f l) [] (i*e+c) [t]=tR f (l.set i y):=by
   simp only [P5,node,K6]
   rw [ZW hlt,nS hi hc hy]
  rw [this];exact h
end Go.Proofs.YtnhicpkhkaihoaaGreat.P
