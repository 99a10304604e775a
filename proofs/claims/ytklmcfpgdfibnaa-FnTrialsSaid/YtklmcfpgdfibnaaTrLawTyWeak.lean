/- A part of the proof. -/
import Derived.Test.YtklmcfpgdfibnaaTrLawGen0
namespace Go.Proofs.Ytklmcfpgdfibnaa.P
open Go Go.Proofs.Ytklmcfpgdfibnaa Go.Proofs.Ytklmcfpgdfibnaa.Eng
set_option maxHeartbeats 4000000
set_option linter.unusedVariables false
set_option linter.unusedSimpArgs false
attribute [local irreducible] prP gP gE gF AX ixW ldc ldg ldl stc stg scW mkW apW BF cl2 BS DK CW
variable {w0:World}
def P7 (o:AG):Int:=7+(o.field.length:Int)
theorem b8 (o:AG):0≤P7 o:=by unfold P7;omega
theorem KV {cur:List AG} {i:Nat} {y:AG} {v:Int} {K:List T→Prop} (hi:i<cur.length) (h:K (tR tO (cur.set i {y with count:=v}))):stc (tR tO (cur.set i y)) [] (AB (iv i)*8+5) (I v) K:=dY hi (by decide) rfl rfl h
theorem VF {cur:List AG} {i:Nat} {y:AG} (hi:i<cur.length):F7 (tR tO (cur.set i y)) [AB (iv i)*8+6]=tI y.field:=lH hi (by decide) rfl
theorem S6 {cur:List AG} {i:Nat} {y:AG} {v:Bool} {K:List T→Prop} (hi:i<cur.length) (h:K (tR tO (cur.set i {y with purple:=v}))):stc (tR tO (cur.set i y)) [] (AB (iv i)*8+7) (.bool v) K:=dY hi (by decide) rfl rfl h
end Go.Proofs.Ytklmcfpgdfibnaa.P
namespace Go.Proofs.Ytklmcfpgdfibnaa.P
open Go Go.Proofs.Ytklmcfpgdfibnaa Go.Proofs.Ytklmcfpgdfibnaa.Eng
set_option maxHeartbeats 4000000
set_option linter.unusedVariables false
set_option linter.unusedSimpArgs false
attribute [local irreducible] prP gP gE gF AX ixW ldc ldg ldl stc stg scW mkW apW BF cl2 BS DK CW
variable {w0:World}
def S5 (o:Wk):Int:=2
theorem Z1 (o:Wk):0≤S5 o:=by unfold S5;omega
end Go.Proofs.Ytklmcfpgdfibnaa.P
