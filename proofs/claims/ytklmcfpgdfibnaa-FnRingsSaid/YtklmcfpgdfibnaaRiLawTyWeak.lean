/- A part of the proof. -/
import Derived.Test.YtklmcfpgdfibnaaRiLawGen0
namespace Go.Proofs.Ytklmcfpgdfibnaa.P
open Go Go.Proofs.Ytklmcfpgdfibnaa Go.Proofs.Ytklmcfpgdfibnaa.Eng
set_option maxHeartbeats 4000000
set_option linter.unusedVariables false
set_option linter.unusedSimpArgs false
attribute [local irreducible] prP gP gE gF AW ixW ldc ldg ldl stc stg scW mkW apW AZ cl2 BJ CH B2
variable {w0:World}
def P9 (o:AE):Int:=7+(o.field.length:Int)
theorem c6 (o:AE):0≤P9 o:=by unfold P9;omega
theorem KR {cur:List AE} {i:Nat} {y:AE} {v:Int} {K:List T→Prop} (hi:i<cur.length) (h:K (tR tO (cur.set i {y with count:=v}))):stc (tR tO (cur.set i y)) [] (AD (iv i)*8+5) (I v) K:=fV hi (by decide) rfl rfl h
theorem OO {cur:List AE} {i:Nat} {y:AE} (hi:i<cur.length):HX (tR tO (cur.set i y)) [AD (iv i)*8+6]=tI y.field:=mA hi (by decide) rfl
theorem S6 {cur:List AE} {i:Nat} {y:AE} {v:Bool} {K:List T→Prop} (hi:i<cur.length) (h:K (tR tO (cur.set i {y with purple:=v}))):stc (tR tO (cur.set i y)) [] (AD (iv i)*8+7) (.bool v) K:=fV hi (by decide) rfl rfl h
end Go.Proofs.Ytklmcfpgdfibnaa.P
namespace Go.Proofs.Ytklmcfpgdfibnaa.P
open Go Go.Proofs.Ytklmcfpgdfibnaa Go.Proofs.Ytklmcfpgdfibnaa.Eng
set_option maxHeartbeats 4000000
set_option linter.unusedVariables false
set_option linter.unusedSimpArgs false
attribute [local irreducible] prP gP gE gF AW ixW ldc ldg ldl stc stg scW mkW apW AZ cl2 BJ CH B2
variable {w0:World}
def S9 (o:Wk):Int:=2
theorem bW (o:Wk):0≤S9 o:=by unfold S9;omega
end Go.Proofs.Ytklmcfpgdfibnaa.P
