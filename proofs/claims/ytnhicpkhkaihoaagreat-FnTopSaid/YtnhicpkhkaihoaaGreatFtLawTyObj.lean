/- A part of the proof. -/
import Derived.Test.YtnhicpkhkaihoaaGreatFtLawGen0
namespace Go.Proofs.YtnhicpkhkaihoaaGreat.P
open Go Go.Proofs.YtnhicpkhkaihoaaGreat Go.Proofs.YtnhicpkhkaihoaaGreat.Eng
set_option maxHeartbeats 4000000
set_option linter.unusedVariables false
set_option linter.unusedSimpArgs false
attribute [local irreducible] prP gP gE gF AV ixW ldc ldg ldl stc stg scW mkW apW BC cl2 BW F6 C2
variable {w0:World}
def T7 (o:A7):Int:=7+(o.field.length:Int)
theorem lE (o:A7):0≤T7 o:=by unfold T7;omega
theorem IY {cur:List A7} {i:Nat} {y:A7} {v:Int} {K:List T→Prop} (hi:i<cur.length) (h:K (tR tO (cur.set i {y with count:=v}))):stc (tR tO (cur.set i y)) [] (AA (iv i)*8+5) (I v) K:=nO hi (by decide) rfl rfl h
theorem RU {cur:List A7} {i:Nat} {y:A7} (hi:i<cur.length):G4 (tR tO (cur.set i y)) [AA (iv i)*8+6]=tI y.field:=wM hi (by decide) rfl
theorem Q1 {cur:List A7} {i:Nat} {y:A7} {v:Bool} {K:List T→Prop} (hi:i<cur.length) (h:K (tR tO (cur.set i {y with purple:=v}))):stc (tR tO (cur.set i y)) [] (AA (iv i)*8+7) (.bool v) K:=nO hi (by decide) rfl rfl h
end Go.Proofs.YtnhicpkhkaihoaaGreat.P
