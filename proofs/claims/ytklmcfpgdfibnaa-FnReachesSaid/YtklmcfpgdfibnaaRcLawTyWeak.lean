/- A part of the proof. -/
import Derived.Test.YtklmcfpgdfibnaaRcLawGen0
namespace Go.Proofs.Ytklmcfpgdfibnaa.P
open Go Go.Proofs.Ytklmcfpgdfibnaa Go.Proofs.Ytklmcfpgdfibnaa.Eng
set_option maxHeartbeats 4000000
set_option linter.unusedVariables false
set_option linter.unusedSimpArgs false
attribute [local irreducible] prP gP gE gF AW ixW ldc ldg ldl stc stg scW mkW apW BE cl2 BS C6 CO
variable {w0:World}
def P8 (o:AG):Int:=7+(o.field.length:Int)
theorem dA (o:AG):0≤P8 o:=by unfold P8;omega
theorem KR {cur:List AG} {i:Nat} {y:AG} {v:Int} {K:List T→Prop} (hi:i<cur.length) (h:K (tR tO (cur.set i {y with count:=v}))):stc (tR tO (cur.set i y)) [] (AB (iv i)*8+5) (I v) K:=eQ hi (by decide) rfl rfl h
theorem T7 {cur:List AG} {i:Nat} {y:AG} (hi:i<cur.length):FZ (tR tO (cur.set i y)) [AB (iv i)*8+6]=tI y.field:=jN hi (by decide) rfl
theorem S9 {cur:List AG} {i:Nat} {y:AG} {v:Bool} {K:List T→Prop} (hi:i<cur.length) (h:K (tR tO (cur.set i {y with purple:=v}))):stc (tR tO (cur.set i y)) [] (AB (iv i)*8+7) (.bool v) K:=eQ hi (by decide) rfl rfl h
end Go.Proofs.Ytklmcfpgdfibnaa.P
namespace Go.Proofs.Ytklmcfpgdfibnaa.P
open Go Go.Proofs.Ytklmcfpgdfibnaa Go.Proofs.Ytklmcfpgdfibnaa.Eng
set_option maxHeartbeats 4000000
set_option linter.unusedVariables false
set_option linter.unusedSimpArgs false
attribute [local irreducible] prP gP gE gF AW ixW ldc ldg ldl stc stg scW mkW apW BE cl2 BS C6 CO
variable {w0:World}
def TD (o:Wk):Int:=2
theorem ZV (o:Wk):0≤TD o:=by unfold TD;omega
end Go.Proofs.Ytklmcfpgdfibnaa.P
