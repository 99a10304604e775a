/- A part of the proof. -/
import Derived.Test.YthapfcoajahegaaDoorReRowT
import Derived.Test.YthapfcoajahegaaDoorReLawTyNode
namespace Go.Proofs.YthapfcoajahegaaDoor.P
open Go Go.ChangeShapes Go.WideShapes Go.ChangeAt Go.RowKit Go.Proofs.YthapfcoajahegaaDoor Go.Proofs.YthapfcoajahegaaDoor.Eng Go.Proofs.YthapfcoajahegaaDoor.Open
set_option linter.unusedVariables false
structure OpF (o:Op5):Prop where
 k:F64 o.kind
 a:F64 o.a
 b:F64 o.b
 c:F64 o.c
 s:(o.site.size:Int)<2^63
structure wC (l:List Op5):Prop where
 len:(l.length:Int)<2^63
 all: ∀o∈l,OpF o
structure wB (l:List An):Prop where
 len:(l.length:Int)<2^63
 all: ∀a∈l,(a.freed.length:Int)<2^63∧F64 a.code∧F64 a.val∧ ∀x∈a.freed,F64 x
end Go.Proofs.YthapfcoajahegaaDoor.P
