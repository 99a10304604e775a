/- A part of the proof. -/
import Derived.Test.YtnhicpkhkaihoaaGreatRpPlC
namespace Go.Proofs.YtnhicpkhkaihoaaGreat.P
open Go Go.Proofs.YtnhicpkhkaihoaaGreat Go.Proofs.YtnhicpkhkaihoaaGreat.Eng
set_option linter.unusedVariables false
set_option maxHeartbeats 4000000
set_option linter.unusedVariables false
set_option linter.unusedSimpArgs false
attribute [local irreducible] prP gP gE gF AG ixW ldc ldg ldl stc stg scW mkW apW BA cl2 B6 G8 C3
variable {w0:World}
structure Co (l:List Int):Prop where
 len:(l.length:Int)<2^62
 all: ∀x∈l,0≤x∧x≤255
theorem Co.at {l:List Int} (h:Co l) {i:Nat} (hi:i<l.length):0≤gI l i∧gI l i≤255:=by rw [←G7 hi];exact h.all _ (List.getElem_mem hi)
structure OpD (o:Op5):Prop where
 k:0≤o.kind∧o.kind≤11
 a: -1≤o.a∧o.a≤7999
 b: -1≤o.b∧o.b≤3
 c: -1≤o.c∧o.c≤7999
 s:o.site.size≤12
theorem OpD.f {o:Op5} (h:OpD o):OpF o:=⟨by have:=h.k;exact ⟨by omega,by omega⟩,by have:=h.a;exact ⟨by omega,by omega⟩,by have:=h.b;exact ⟨by omega,by omega⟩,by have:=h.c;exact ⟨by omega,by omega⟩,by have:=h.s;omega⟩
end Go.Proofs.YtnhicpkhkaihoaaGreat.P
