/- The arguments of the exact laws, opened as trees. -/
import Derived.Test.YtnhicpkhkaihoaaRows
import Derived.Test.YtnhicpkhkaihoaaCfLawHp
import Derived.WalkKit
import Derived.ProofKit
import Derived.OpenShut
import Derived.ShutString
import Derived.ChangeOld
import Derived.SizedLaws
namespace Go.Proofs.Ytnhicpkhkaihoaa.P
open Go Go.ChangeShapes Go.WideShapes Go.ChangeAt Go.RowKit Go.Proofs.Ytnhicpkhkaihoaa Go.Proofs.Ytnhicpkhkaihoaa.Eng Go.Proofs.Ytnhicpkhkaihoaa.Open
set_option linter.unusedVariables false
/-! ### Arguments -/
theorem cells_0 {s : St} : CellsR s [] [] [] [] [] [] [] := ⟨rfl, rfl, rfl, rfl, rfl, rfl⟩
theorem cells_v {s : St} {k : List CS} {u : Value} {us vs sv : List Value} {cs : List (List T)} {D : List Nat} (hu : plain u = true) (h : CellsR s k us vs cs sv [] D) : CellsR s (.v :: k) (u :: us) (u :: vs) cs sv [] D := ⟨u, us, vs, rfl, rfl, hu, h⟩
theorem par_n {s : St} : ParR s [] [] [] [] [] [] [] := ⟨rfl, rfl, rfl, rfl, rfl, rfl⟩
theorem par_o {s : St} {k : List CS} {r : List (Nat × List CS)} {u : Value} {ar v1 v2 s1 s2 : List Value} {c1 c2 : List (List T)} {D1 D2 : List Nat} (hc : CellsR s k [u] v1 c1 s1 [] D1) (hr : ParR s r ar v2 c2 s2 [] D2) : ParR s ((0, k) :: r) (u :: ar) (v1 ++ v2) (c1 ++ c2) (s1 ++ s2) [] (D1 ++ D2) :=
  ⟨_, ar, [u], v1, v2, c1, c2, s1, s2, [], [], D1, D2, rfl, rfl, rfl, rfl, rfl, hc, hr, rfl, rfl⟩
end Go.Proofs.Ytnhicpkhkaihoaa.P
