/- A part of the proof. -/
import Derived.Test.YthapfcoajahegaaAlRowT
import Derived.Test.YthapfcoajahegaaAlDrA
namespace Go.Proofs.Ythapfcoajahegaa.P
open Go Go.ChangeShapes Go.WideShapes Go.ChangeAt Go.RowKit Go.Proofs.Ythapfcoajahegaa Go.Proofs.Ythapfcoajahegaa.Eng Go.Proofs.Ythapfcoajahegaa.Open
set_option linter.unusedVariables false
def kA (a:List Int):Prop:= ∀x∈a,0≤x∧x≤255
theorem kA.f {a:List Int} (h:kA a) (hl: ¬(a.length:Int)>1048576):pX a:=⟨by omega,h⟩
end Go.Proofs.Ythapfcoajahegaa.P
