/- A part of the proof. -/
import Derived.Test.YtklmcfpgdfibnaaPtLawGen0
namespace Go.Proofs.Ytklmcfpgdfibnaa.P
open Go Go.Proofs.Ytklmcfpgdfibnaa Go.Proofs.Ytklmcfpgdfibnaa.Eng
set_option maxHeartbeats 4000000
set_option linter.unusedVariables false
set_option linter.unusedSimpArgs false
attribute [local irreducible] prP gP gE gF AW ixW ldc ldg ldl stc stg scW mkW apW BK cl2 BW EI CM
variable {w0:World}
def QV (o:AU):Int:=7+(o.field.length:Int)
theorem dB (o:AU):0≤QV o:=by unfold QV;omega
theorem G8 {cur:List AU} {i:Nat} {y:AU} {v:Int} {K:List T→Prop} (hi:i<cur.length) (h:K (tR tO (cur.set i {y with count:=v}))):stc (tR tO (cur.set i y)) [] (AA (iv i)*8+5) (I v) K:=hX hi (by decide) rfl rfl h
theorem OP {cur:List AU} {i:Nat} {y:AU} (hi:i<cur.length):FL (tR tO (cur.set i y)) [AA (iv i)*8+6]=tI y.field:=kK hi (by decide) rfl
theorem OE {cur:List AU} {i:Nat} {y:AU} {v:Bool} {K:List T→Prop} (hi:i<cur.length) (h:K (tR tO (cur.set i {y with purple:=v}))):stc (tR tO (cur.set i y)) [] (AA (iv i)*8+7) (.bool v) K:=hX hi (by decide) rfl rfl h
end Go.Proofs.Ytklmcfpgdfibnaa.P
