/- A part of the proof. -/
import Derived.Test.YthapfcoajahegaaDoorRows
import Derived.Test.YthapfcoajahegaaDoorReLawHp
import Derived.WalkKit
import Derived.ProofKit
import Derived.OpenShut
import Derived.ShutString
import Derived.ChangeOld
import Derived.SizedLaws
namespace Go.Proofs.YthapfcoajahegaaDoor.P
open Go Go.ChangeShapes Go.WideShapes Go.ChangeAt Go.RowKit Go.Proofs.YthapfcoajahegaaDoor Go.Proofs.YthapfcoajahegaaDoor.Eng Go.Proofs.YthapfcoajahegaaDoor.Open
set_option linter.unusedVariables false
theorem fm {α β:Type} (f:α→β): ∀l:List α,(l.flatMap fun x=>[f x])=l.map f
 | []=>rfl
 | a::l=>by rw [List.flatMap_cons,fm f l];rfl
theorem vC {α:Type} {d:Kind α} {t:α→List T} {hsz:0<d.sz} (hd:Rdt d t) {s:St} {xs:List α} {cs:List Value} (h:(kSl d hsz).E s xs cs): ∃v F,cs=[v]∧TR s false (.l d.sz (xs.flatMap t)) v F:=by
 obtain ⟨F,hF⟩:=(qA (hsz:=hsz) hd).2 s _ _ h
 obtain ⟨v,rfl,hv⟩:=IE.1 hF
 exact ⟨v,F,rfl,hv⟩
theorem uD {ρ:Rho} {s:St} {o:Bool} {e:Nat} {cs:List T} {v u:Value} {F:List Nat} (ht:TR s o (.l e cs) v F) (h:CR ρ v u):VR ρ v u:=by
 rcases IA.1 ht with ⟨rfl,_⟩ | ⟨h',b,n,rfl,_⟩
 ·exact h
 ·exact h
theorem oI {s:St}:C1 s [] [] [] [] [] [] []:=⟨rfl,rfl,rfl,rfl,rfl,rfl⟩
theorem oJ {s:St} {k:List CS} {e:Nat} {u:Value} {c:List T} {us vs sv:List Value} {cs:List (List T)} {F D:List Nat} (ht:TR s false (.l e c) u F) (h:C1 s k us vs cs sv [] D):C1 s (.t e 0::k) (u::us) vs (c::cs) (u::sv) [] (F++D):=
 ⟨u,us,c,cs,sv,F,[],D,rfl,rfl,rfl,ht,⟨rfl,rfl⟩,h⟩
theorem uQ {s:St}:OX s [] [] [] [] [] [] []:=⟨rfl,rfl,rfl,rfl,rfl,rfl⟩
theorem uZ {s:St} {k:List CS} {r:List (Nat×List CS)} {u:Value} {ar v1 v2 s1 s2:List Value} {c1 c2:List (List T)} {D1 D2:List Nat} (hc:C1 s k [u] v1 c1 s1 [] D1) (hr:OX s r ar v2 c2 s2 [] D2):OX s ((0,k)::r) (u::ar) (v1++v2) (c1++c2) (s1++s2) [] (D1++D2):=
 ⟨_,ar,[u],v1,v2,c1,c2,s1,s2,[],[],D1,D2,rfl,rfl,rfl,rfl,rfl,hc,hr,rfl,rfl⟩
end Go.Proofs.YthapfcoajahegaaDoor.P
