/- A part of the proof. -/
import Derived.Test.YtklmcfpgdfibnaaRtLawGen0
namespace Go.Proofs.Ytklmcfpgdfibnaa.P
open Go Go.Proofs.Ytklmcfpgdfibnaa Go.Proofs.Ytklmcfpgdfibnaa.Eng
set_option maxHeartbeats 4000000
set_option linter.unusedVariables false
set_option linter.unusedSimpArgs false
attribute [local irreducible] prP gP gE gF AX ixW ldc ldg ldl stc stg scW mkW apW BN cl2 BV EN CJ
variable {w0:World}
def RW (o:AV):Int:=7+(o.field.length:Int)
theorem eP (o:AV):0≤RW o:=by unfold RW;omega
theorem HD {cur:List AV} {i:Nat} {y:AV} {v:Int} {K:List T→Prop} (hi:i<cur.length) (h:K (tR tO (cur.set i {y with count:=v}))):stc (tR tO (cur.set i y)) [] (AA (iv i)*8+5) (I v) K:=iH hi (by decide) rfl rfl h
theorem O8 {cur:List AV} {i:Nat} {y:AV} (hi:i<cur.length):GL (tR tO (cur.set i y)) [AA (iv i)*8+6]=tI y.field:=mU hi (by decide) rfl
theorem OO {cur:List AV} {i:Nat} {y:AV} {v:Bool} {K:List T→Prop} (hi:i<cur.length) (h:K (tR tO (cur.set i {y with purple:=v}))):stc (tR tO (cur.set i y)) [] (AA (iv i)*8+7) (.bool v) K:=iH hi (by decide) rfl rfl h
end Go.Proofs.Ytklmcfpgdfibnaa.P
namespace Go.Proofs.Ytklmcfpgdfibnaa.P
open Go Go.Proofs.Ytklmcfpgdfibnaa Go.Proofs.Ytklmcfpgdfibnaa.Eng
set_option maxHeartbeats 4000000
set_option linter.unusedVariables false
set_option linter.unusedSimpArgs false
attribute [local irreducible] prP gP gE gF AX ixW ldc ldg ldl stc stg scW mkW apW BN cl2 BV EN CJ
variable {w0:World}
def UE (o:Wk):Int:=2
theorem cG (o:Wk):0≤UE o:=by unfold UE;omega
end Go.Proofs.Ytklmcfpgdfibnaa.P
