/- A part of the proof. -/
import Derived.Test.YthapfcoajahegaaRows
import Derived.Test.YthapfcoajahegaaAlLawHp
import Derived.WalkKit
import Derived.ProofKit
import Derived.OpenShut
import Derived.ShutString
import Derived.ChangeOld
import Derived.SizedLaws
namespace Go.Proofs.Ythapfcoajahegaa.P
open Go Go.ChangeShapes Go.WideShapes Go.ChangeAt Go.RowKit Go.Proofs.Ythapfcoajahegaa Go.Proofs.Ythapfcoajahegaa.Eng Go.Proofs.Ythapfcoajahegaa.Open
set_option linter.unusedVariables false
theorem QF {z:Int} (h:(Lit.int .i64 z).wf=true):F64 z:=by
 simp [Lit.wf,IntKind.min,IntKind.max,IntKind.signed,IntKind.bits] at h
 exact ⟨by omega,by omega⟩
abbrev dI:=pH .i64
abbrev dIs:=kSl dI (Nat.succ_pos 0)
theorem fm {α β:Type} (f:α→β): ∀l:List α,(l.flatMap fun x=>[f x])=l.map f
 | []=>rfl
 | a::l=>by rw [List.flatMap_cons,fm f l];rfl
theorem tM (l:List Int):(l.flatMap fun n=>[T.c (.int .i64 n)])=tI l:=fm (fun n=>T.c (.int .i64 n)) l
theorem WW {α β:Type} {t:α→List T} {f:β→List T} {g:α→β} (h: ∀x,t x=f (g x)) (l:List α):l.flatMap t=tR f (l.map g):=by
 rw [tR,List.flatMap_map]
 have:t=fun x=>f (g x):=funext h
 rw [this]
theorem rZ {α:Type} {d:Kind α} {t:α→List T} {hsz:0<d.sz} (hd:Rdt d t) {s:St} {xs:List α} {cs:List Value} (h:(kSl d hsz).E s xs cs): ∃v F,cs=[v]∧TR s false (.l d.sz (xs.flatMap t)) v F:=by
 obtain ⟨F,hF⟩:=(lD (hsz:=hsz) hd).2 s _ _ h
 obtain ⟨v,rfl,hv⟩:=G9.1 hF
 exact ⟨v,F,rfl,hv⟩
theorem oV {ρ:Rho} {s:St} {o:Bool} {e:Nat} {cs:List T} {v u:Value} {F:List Nat} (ht:TR s o (.l e cs) v F) (h:CR ρ v u):VR ρ v u:=by
 rcases G4.1 ht with ⟨rfl,_⟩ | ⟨h',b,n,rfl,_⟩
 ·exact h
 ·exact h
theorem e8 {s:St}:BS s [] [] [] [] [] [] []:=⟨rfl,rfl,rfl,rfl,rfl,rfl⟩
theorem eQ {s:St} {k:List CS} {e:Nat} {u:Value} {c:List T} {us vs sv:List Value} {cs:List (List T)} {F D:List Nat} (ht:TR s false (.l e c) u F) (h:BS s k us vs cs sv [] D):BS s (.t e 0::k) (u::us) vs (c::cs) (u::sv) [] (F++D):=
 ⟨u,us,c,cs,sv,F,[],D,rfl,rfl,rfl,ht,⟨rfl,rfl⟩,h⟩
theorem rI {s:St}:N9 s [] [] [] [] [] [] []:=⟨rfl,rfl,rfl,rfl,rfl,rfl⟩
theorem oY {s:St} {k:List CS} {r:List (Nat×List CS)} {u:Value} {ar v1 v2 s1 s2:List Value} {c1 c2:List (List T)} {D1 D2:List Nat} (hc:BS s k [u] v1 c1 s1 [] D1) (hr:N9 s r ar v2 c2 s2 [] D2):N9 s ((0,k)::r) (u::ar) (v1++v2) (c1++c2) (s1++s2) [] (D1++D2):=
 ⟨_,ar,[u],v1,v2,c1,c2,s1,s2,[],[],D1,D2,rfl,rfl,rfl,rfl,rfl,hc,hr,rfl,rfl⟩
end Go.Proofs.Ythapfcoajahegaa.P
