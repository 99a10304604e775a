/- A part of the proof. -/
import Derived.Test.YtnhicpkhkaihoaaEvPlA
import Derived.Test.YtnhicpkhkaihoaaChecked
import Derived.Test.YtnhicpkhkaihoaaEvEngM2
import Derived.KernelRfl
namespace Go.Proofs.Ytnhicpkhkaihoaa.P
open Go Go.Proofs.Ytnhicpkhkaihoaa Go.Proofs.Ytnhicpkhkaihoaa.Eng
set_option linter.unusedVariables false
set_option maxRecDepth 100000
theorem m0 {α:Type} {f:α→List T} {e:Nat} [hr:Rw f e] {l:List α} {i:Nat} (hi:i<l.length) {c:Nat} {t:T} {y:α} {K:List T→Prop} (hc:c<e) (hy:f y=(f l[i]).set c t) (h:K (tR f (l.set i y))):stg (tR f l) [] (AA (iv i)*e+c) [t] K:=by
 rw [AY]
 have hlt:i*e+c<(tR f l).length:=by
  rw [VT]
  have:(i+1)*e≤l.length*e:=Nat.mul_le_mul_right _ hi
  rw [Nat.add_mul] at this;omega
 refine ⟨⟨_,rfl, ?_⟩, ?_⟩
 ·simp only [List.length_singleton];omega
 ·have:NL (tR f l) [] (i*e+c) [t]=tR f (l.set i y):=by
   simp only [NL,node,ID]
   rw [VJ hlt,dA hi hc hy]
  rw [this];exact h
end Go.Proofs.Ytnhicpkhkaihoaa.P
