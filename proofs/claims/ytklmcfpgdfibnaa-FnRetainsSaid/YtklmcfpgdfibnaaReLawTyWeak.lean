/- A part of the proof. -/
import Derived.Test.YtklmcfpgdfibnaaReLawGen0
namespace Go.Proofs.Ytklmcfpgdfibnaa.P
open Go Go.Proofs.Ytklmcfpgdfibnaa Go.Proofs.Ytklmcfpgdfibnaa.Eng
set_option maxHeartbeats 4000000
set_option linter.unusedVariables false
set_option linter.unusedSimpArgs false
attribute [local irreducible] prP gP gE gF AY ixW ldc ldg ldl stc stg scW mkW apW BD cl2 BQ CZ B9
variable {w0:World}
def RD (o:AG):Int:=7+(o.field.length:Int)
theorem eZ (o:AG):0≤RD o:=by unfold RD;omega
theorem LS {cur:List AG} {i:Nat} {y:AG} {v:Int} {K:List T→Prop} (hi:i<cur.length) (h:K (tR tO (cur.set i {y with count:=v}))):stc (tR tO (cur.set i y)) [] (AA (iv i)*8+5) (I v) K:=iG hi (by decide) rfl rfl h
theorem WN {cur:List AG} {i:Nat} {y:AG} (hi:i<cur.length):EF (tR tO (cur.set i y)) [AA (iv i)*8+6]=tI y.field:=p6 hi (by decide) rfl
theorem UQ {cur:List AG} {i:Nat} {y:AG} {v:Bool} {K:List T→Prop} (hi:i<cur.length) (h:K (tR tO (cur.set i {y with purple:=v}))):stc (tR tO (cur.set i y)) [] (AA (iv i)*8+7) (.bool v) K:=iG hi (by decide) rfl rfl h
end Go.Proofs.Ytklmcfpgdfibnaa.P
namespace Go.Proofs.Ytklmcfpgdfibnaa.P
open Go Go.Proofs.Ytklmcfpgdfibnaa Go.Proofs.Ytklmcfpgdfibnaa.Eng
set_option maxHeartbeats 4000000
set_option linter.unusedVariables false
set_option linter.unusedSimpArgs false
attribute [local irreducible] prP gP gE gF AY ixW ldc ldg ldl stc stg scW mkW apW BD cl2 BQ CZ B9
variable {w0:World}
def UG (o:Wk):Int:=2
theorem bE (o:Wk):0≤UG o:=by unfold UG;omega
end Go.Proofs.Ytklmcfpgdfibnaa.P
