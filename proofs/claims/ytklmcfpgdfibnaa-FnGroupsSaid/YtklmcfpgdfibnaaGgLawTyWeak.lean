/- A part of the proof. -/
import Derived.Test.YtklmcfpgdfibnaaGgLawGen0
namespace Go.Proofs.Ytklmcfpgdfibnaa.P
open Go Go.Proofs.Ytklmcfpgdfibnaa Go.Proofs.Ytklmcfpgdfibnaa.Eng
set_option maxHeartbeats 4000000
set_option linter.unusedVariables false
set_option linter.unusedSimpArgs false
attribute [local irreducible] prP gP gE gF AV ixW ldc ldg ldl stc stg scW mkW apW BC cl2 BS CU B1
variable {w0:World}
def QR (o:AG):Int:=7+(o.field.length:Int)
theorem fD (o:AG):0≤QR o:=by unfold QR;omega
theorem K2 {cur:List AG} {i:Nat} {y:AG} {v:Int} {K:List T→Prop} (hi:i<cur.length) (h:K (tR tO (cur.set i {y with count:=v}))):stc (tR tO (cur.set i y)) [] (AB (iv i)*8+5) (I v) K:=fW hi (by decide) rfl rfl h
theorem WB {cur:List AG} {i:Nat} {y:AG} (hi:i<cur.length):DN (tR tO (cur.set i y)) [AB (iv i)*8+6]=tI y.field:=pC hi (by decide) rfl
theorem T2 {cur:List AG} {i:Nat} {y:AG} {v:Bool} {K:List T→Prop} (hi:i<cur.length) (h:K (tR tO (cur.set i {y with purple:=v}))):stc (tR tO (cur.set i y)) [] (AB (iv i)*8+7) (.bool v) K:=fW hi (by decide) rfl rfl h
end Go.Proofs.Ytklmcfpgdfibnaa.P
namespace Go.Proofs.Ytklmcfpgdfibnaa.P
open Go Go.Proofs.Ytklmcfpgdfibnaa Go.Proofs.Ytklmcfpgdfibnaa.Eng
set_option maxHeartbeats 4000000
set_option linter.unusedVariables false
set_option linter.unusedSimpArgs false
attribute [local irreducible] prP gP gE gF AV ixW ldc ldg ldl stc stg scW mkW apW BC cl2 BS CU B1
variable {w0:World}
def T8 (o:Wk):Int:=2
theorem bY (o:Wk):0≤T8 o:=by unfold T8;omega
end Go.Proofs.Ytklmcfpgdfibnaa.P
