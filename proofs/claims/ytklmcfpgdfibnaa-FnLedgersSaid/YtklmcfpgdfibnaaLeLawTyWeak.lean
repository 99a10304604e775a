/- A part of the proof. -/
import Derived.Test.YtklmcfpgdfibnaaLeLawGen0
namespace Go.Proofs.Ytklmcfpgdfibnaa.P
open Go Go.Proofs.Ytklmcfpgdfibnaa Go.Proofs.Ytklmcfpgdfibnaa.Eng
set_option maxHeartbeats 4000000
set_option linter.unusedVariables false
set_option linter.unusedSimpArgs false
attribute [local irreducible] prP gP gE gF AJ ixW ldc ldg ldl stc stg scW mkW apW A6 cl2 BF CM CB
variable {w0:World}
def QW (o:AE):Int:=7+(o.field.length:Int)
theorem gA (o:AE):0≤QW o:=by unfold QW;omega
theorem K4 {cur:List AE} {i:Nat} {y:AE} {v:Int} {K:List T→Prop} (hi:i<cur.length) (h:K (tR tO (cur.set i {y with count:=v}))):stc (tR tO (cur.set i y)) [] (AB (iv i)*8+5) (I v) K:=iA hi (by decide) rfl rfl h
theorem UP {cur:List AE} {i:Nat} {y:AE} (hi:i<cur.length):HF (tR tO (cur.set i y)) [AB (iv i)*8+6]=tI y.field:=nV hi (by decide) rfl
theorem TO {cur:List AE} {i:Nat} {y:AE} {v:Bool} {K:List T→Prop} (hi:i<cur.length) (h:K (tR tO (cur.set i {y with purple:=v}))):stc (tR tO (cur.set i y)) [] (AB (iv i)*8+7) (.bool v) K:=iA hi (by decide) rfl rfl h
end Go.Proofs.Ytklmcfpgdfibnaa.P
namespace Go.Proofs.Ytklmcfpgdfibnaa.P
open Go Go.Proofs.Ytklmcfpgdfibnaa Go.Proofs.Ytklmcfpgdfibnaa.Eng
set_option maxHeartbeats 4000000
set_option linter.unusedVariables false
set_option linter.unusedSimpArgs false
attribute [local irreducible] prP gP gE gF AJ ixW ldc ldg ldl stc stg scW mkW apW A6 cl2 BF CM CB
variable {w0:World}
def TY (o:Wk):Int:=2
theorem bK (o:Wk):0≤TY o:=by unfold TY;omega
end Go.Proofs.Ytklmcfpgdfibnaa.P
