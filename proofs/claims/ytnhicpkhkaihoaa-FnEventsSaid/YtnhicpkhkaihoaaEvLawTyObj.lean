/- A part of the proof. -/
import Derived.Test.YtnhicpkhkaihoaaEvLawGen0
namespace Go.Proofs.Ytnhicpkhkaihoaa.P
open Go Go.Proofs.Ytnhicpkhkaihoaa Go.Proofs.Ytnhicpkhkaihoaa.Eng
set_option maxHeartbeats 4000000
set_option linter.unusedVariables false
set_option linter.unusedSimpArgs false
attribute [local irreducible] prP gP gE gF AI ixW ldc ldg ldl stc stg scW mkW apW BG cl2 BZ EZ DS
variable {w0:World}
def QU (o:AX):Int:=7+(o.field.length:Int)
theorem dS (o:AX):0≤QU o:=by unfold QU;omega
theorem LN {cur:List AX} {i:Nat} {y:AX} {v:Int} {K:List T→Prop} (hi:i<cur.length) (h:K (tR tO (cur.set i {y with count:=v}))):stc (tR tO (cur.set i y)) [] (AA (iv i)*8+5) (I v) K:=gC hi (by decide) rfl rfl h
theorem U7 {cur:List AX} {i:Nat} {y:AX} (hi:i<cur.length):IM (tR tO (cur.set i y)) [AA (iv i)*8+6]=tI y.field:=nG hi (by decide) rfl
theorem T5 {cur:List AX} {i:Nat} {y:AX} {v:Bool} {K:List T→Prop} (hi:i<cur.length) (h:K (tR tO (cur.set i {y with purple:=v}))):stc (tR tO (cur.set i y)) [] (AA (iv i)*8+7) (.bool v) K:=gC hi (by decide) rfl rfl h
end Go.Proofs.Ytnhicpkhkaihoaa.P
