/- A part of the proof. -/
import Derived.Test.YtklmcfpgdfibnaaNwLawGen0
namespace Go.Proofs.Ytklmcfpgdfibnaa.P
open Go Go.Proofs.Ytklmcfpgdfibnaa Go.Proofs.Ytklmcfpgdfibnaa.Eng
set_option maxHeartbeats 4000000
set_option linter.unusedVariables false
set_option linter.unusedSimpArgs false
attribute [local irreducible] prP gP gE gF AV ixW ldc ldg ldl stc stg scW mkW apW BL cl2 BS EC CX
variable {w0:World}
def QQ (o:AU):Int:=7+(o.field.length:Int)
theorem cS (o:AU):0≤QQ o:=by unfold QQ;omega
theorem GR {cur:List AU} {i:Nat} {y:AU} {v:Int} {K:List T→Prop} (hi:i<cur.length) (h:K (tR tO (cur.set i {y with count:=v}))):stc (tR tO (cur.set i y)) [] (AA (iv i)*8+5) (I v) K:=gQ hi (by decide) rfl rfl h
theorem OC {cur:List AU} {i:Nat} {y:AU} (hi:i<cur.length):GM (tR tO (cur.set i y)) [AA (iv i)*8+6]=tI y.field:=jR hi (by decide) rfl
theorem N5 {cur:List AU} {i:Nat} {y:AU} {v:Bool} {K:List T→Prop} (hi:i<cur.length) (h:K (tR tO (cur.set i {y with purple:=v}))):stc (tR tO (cur.set i y)) [] (AA (iv i)*8+7) (.bool v) K:=gQ hi (by decide) rfl rfl h
end Go.Proofs.Ytklmcfpgdfibnaa.P
