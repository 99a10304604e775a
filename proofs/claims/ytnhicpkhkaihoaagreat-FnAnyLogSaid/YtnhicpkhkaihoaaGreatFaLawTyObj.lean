/- A part of the proof. -/
import Derived.Test.YtnhicpkhkaihoaaGreatFaLawGen0
namespace Go.Proofs.YtnhicpkhkaihoaaGreat.P
open Go Go.Proofs.YtnhicpkhkaihoaaGreat Go.Proofs.YtnhicpkhkaihoaaGreat.Eng
set_option maxHeartbeats 4000000
set_option linter.unusedVariables false
set_option linter.unusedSimpArgs false
attribute [local irreducible] prP gP gE gF AU ixW ldc ldg ldl stc stg scW mkW apW BG cl2 BX GP CZ
variable {w0:World}
def U3 (o:A7):Int:=7+(o.field.length:Int)
theorem mS (o:A7):0≤U3 o:=by unfold U3;omega
theorem JE {cur:List A7} {i:Nat} {y:A7} {v:Int} {K:List T→Prop} (hi:i<cur.length) (h:K (tR tO (cur.set i {y with count:=v}))):stc (tR tO (cur.set i y)) [] (AA (iv i)*8+5) (I v) K:=qQ hi (by decide) rfl rfl h
theorem SV {cur:List A7} {i:Nat} {y:A7} (hi:i<cur.length):HF (tR tO (cur.set i y)) [AA (iv i)*8+6]=tI y.field:=vN hi (by decide) rfl
theorem RO {cur:List A7} {i:Nat} {y:A7} {v:Bool} {K:List T→Prop} (hi:i<cur.length) (h:K (tR tO (cur.set i {y with purple:=v}))):stc (tR tO (cur.set i y)) [] (AA (iv i)*8+7) (.bool v) K:=qQ hi (by decide) rfl rfl h
end Go.Proofs.YtnhicpkhkaihoaaGreat.P
