/- A part of the proof. -/
import Derived.Test.YtnhicpkhkaihoaaGreatRows
import Derived.Test.YtnhicpkhkaihoaaGreatRpLawHp
import Derived.WalkKit
import Derived.ProofKit
import Derived.OpenShut
import Derived.ShutString
import Derived.ChangeOld
import Derived.SizedLaws
namespace Go.Proofs.YtnhicpkhkaihoaaGreat.P
open Go Go.ChangeShapes Go.WideShapes Go.ChangeAt Go.RowKit Go.Proofs.YtnhicpkhkaihoaaGreat Go.Proofs.YtnhicpkhkaihoaaGreat.Eng Go.Proofs.YtnhicpkhkaihoaaGreat.Open
set_option linter.unusedVariables false
theorem yU {s:St}:DE s [] [] [] [] [] [] []:=⟨rfl,rfl,rfl,rfl,rfl,rfl⟩
theorem xG {s:St} {k:List CS} {u:Value} {us vs sv:List Value} {cs:List (List T)} {D:List Nat} (hu:plain u=true) (h:DE s k us vs cs sv [] D):DE s (.v::k) (u::us) (u::vs) cs sv [] D:=⟨u,us,vs,rfl,rfl,hu,h⟩
theorem Ck {s:St}:SK s [] [] [] [] [] [] []:=⟨rfl,rfl,rfl,rfl,rfl,rfl⟩
theorem Cp {s:St} {k:List CS} {r:List (Nat×List CS)} {u:Value} {ar v1 v2 s1 s2:List Value} {c1 c2:List (List T)} {D1 D2:List Nat} (hc:DE s k [u] v1 c1 s1 [] D1) (hr:SK s r ar v2 c2 s2 [] D2):SK s ((0,k)::r) (u::ar) (v1++v2) (c1++c2) (s1++s2) [] (D1++D2):=
 ⟨_,ar,[u],v1,v2,c1,c2,s1,s2,[],[],D1,D2,rfl,rfl,rfl,rfl,rfl,hc,hr,rfl,rfl⟩
end Go.Proofs.YtnhicpkhkaihoaaGreat.P
