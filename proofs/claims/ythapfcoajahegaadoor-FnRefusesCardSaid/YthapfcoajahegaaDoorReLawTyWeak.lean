/- A part of the proof. -/
import Derived.Test.YthapfcoajahegaaDoorReLawGen0
namespace Go.Proofs.YthapfcoajahegaaDoor.P
open Go Go.Proofs.YthapfcoajahegaaDoor Go.Proofs.YthapfcoajahegaaDoor.Eng
set_option maxHeartbeats 4000000
set_option linter.unusedVariables false
set_option linter.unusedSimpArgs false
attribute [local irreducible] prP gP gE gF AY ixW ldc ldg ldl stc stg scW mkW apW A6 cl2 BL C5 BX
variable {w0:World}
def QZ (o:AD):Int:=7+(o.field.length:Int)
theorem c7 (o:AD):0≤QZ o:=by unfold QZ;omega
theorem L6 {cur:List AD} {i:Nat} {y:AD} {v:Int} {K:List T→Prop} (hi:i<cur.length) (h:K (tR tO (cur.set i {y with count:=v}))):stc (tR tO (cur.set i y)) [] (AB (iv i)*8+5) (I v) K:=dP hi (by decide) rfl rfl h
theorem PE {cur:List AD} {i:Nat} {y:AD} (hi:i<cur.length):L5 (tR tO (cur.set i y)) [AB (iv i)*8+6]=tI y.field:=kH hi (by decide) rfl
theorem TG {cur:List AD} {i:Nat} {y:AD} {v:Bool} {K:List T→Prop} (hi:i<cur.length) (h:K (tR tO (cur.set i {y with purple:=v}))):stc (tR tO (cur.set i y)) [] (AB (iv i)*8+7) (.bool v) K:=dP hi (by decide) rfl rfl h
end Go.Proofs.YthapfcoajahegaaDoor.P
namespace Go.Proofs.YthapfcoajahegaaDoor.P
open Go Go.Proofs.YthapfcoajahegaaDoor Go.Proofs.YthapfcoajahegaaDoor.Eng
set_option maxHeartbeats 4000000
set_option linter.unusedVariables false
set_option linter.unusedSimpArgs false
attribute [local irreducible] prP gP gE gF AY ixW ldc ldg ldl stc stg scW mkW apW A6 cl2 BL C5 BX
variable {w0:World}
def TK (o:Wk):Int:=2
theorem Z1 (o:Wk):0≤TK o:=by unfold TK;omega
end Go.Proofs.YthapfcoajahegaaDoor.P
