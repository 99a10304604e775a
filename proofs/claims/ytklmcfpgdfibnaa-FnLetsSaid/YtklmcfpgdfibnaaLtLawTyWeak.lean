/- A part of the proof. -/
import Derived.Test.YtklmcfpgdfibnaaLtLawGen0
namespace Go.Proofs.Ytklmcfpgdfibnaa.P
open Go Go.Proofs.Ytklmcfpgdfibnaa Go.Proofs.Ytklmcfpgdfibnaa.Eng
set_option maxHeartbeats 4000000
set_option linter.unusedVariables false
set_option linter.unusedSimpArgs false
attribute [local irreducible] prP gP gE gF AX ixW ldc ldg ldl stc stg scW mkW apW BL cl2 BS EB B8
variable {w0:World}
def Q3 (o:AV):Int:=7+(o.field.length:Int)
theorem eD (o:AV):0≤Q3 o:=by unfold Q3;omega
theorem G7 {cur:List AV} {i:Nat} {y:AV} {v:Int} {K:List T→Prop} (hi:i<cur.length) (h:K (tR tO (cur.set i {y with count:=v}))):stc (tR tO (cur.set i y)) [] (AA (iv i)*8+5) (I v) K:=eU hi (by decide) rfl rfl h
theorem PG {cur:List AV} {i:Nat} {y:AV} (hi:i<cur.length):GJ (tR tO (cur.set i y)) [AA (iv i)*8+6]=tI y.field:=kP hi (by decide) rfl
theorem N5 {cur:List AV} {i:Nat} {y:AV} {v:Bool} {K:List T→Prop} (hi:i<cur.length) (h:K (tR tO (cur.set i {y with purple:=v}))):stc (tR tO (cur.set i y)) [] (AA (iv i)*8+7) (.bool v) K:=eU hi (by decide) rfl rfl h
end Go.Proofs.Ytklmcfpgdfibnaa.P
namespace Go.Proofs.Ytklmcfpgdfibnaa.P
open Go Go.Proofs.Ytklmcfpgdfibnaa Go.Proofs.Ytklmcfpgdfibnaa.Eng
set_option maxHeartbeats 4000000
set_option linter.unusedVariables false
set_option linter.unusedSimpArgs false
attribute [local irreducible] prP gP gE gF AX ixW ldc ldg ldl stc stg scW mkW apW BL cl2 BS EB B8
variable {w0:World}
def TU (o:Wk):Int:=2
theorem aH (o:Wk):0≤TU o:=by unfold TU;omega
end Go.Proofs.Ytklmcfpgdfibnaa.P
