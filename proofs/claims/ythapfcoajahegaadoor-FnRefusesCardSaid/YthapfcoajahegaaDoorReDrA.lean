/- A part of the proof. -/
import Derived.Test.YthapfcoajahegaaDoorReHpFb
namespace Go.Proofs.YthapfcoajahegaaDoor.P
open Go Go.Proofs.YthapfcoajahegaaDoor Go.Proofs.YthapfcoajahegaaDoor.Eng
set_option linter.unusedVariables false
set_option maxHeartbeats 4000000
set_option linter.unusedVariables false
set_option linter.unusedSimpArgs false
attribute [local irreducible] prP gP gE gF AY ixW ldc ldg ldl stc stg scW mkW apW A6 cl2 BL C5 BX
variable {w0:World}
def tY (l:List Int):List T:=l.map fun n=> .c (.int .u8 n)
structure oM (l:List Int):Prop where
 len:(l.length:Int)<2^62
 all: ∀x∈l,0≤x∧x≤255
theorem jI (l:List Int):cnt 1 (tY l)=l.length:=by simp [cnt,tY]
theorem ldY {l:List Int} {i:Nat} {K:Value→Prop} (hi:i<l.length) (h:K (.int .u8 (gI l i))):ldc (tY l) [] (AB (iv i)*1) K:=by
 rw [←G3 hi] at h
 exact j9 (by rw [BB];simp [tY,hi]) h
theorem oM.at {l:List Int} (h:oM l) {i:Nat} (hi:i<l.length):0≤gI l i∧gI l i≤255:=by rw [←G3 hi];exact h.all _ (List.getElem_mem hi)
def lE (l:List AD) (i:Nat):List Int:=if (i:Int)<8∧(ob l i).live=true then [CV i (ob l i).gen] else []
def aA (l:List AD):List Int:=pick (lE l) l.length
structure OpD (o:Op5):Prop where
 k:0≤o.kind∧o.kind≤11
 a: -1≤o.a∧o.a≤7999
 b: -1≤o.b∧o.b≤3
 c: -1≤o.c∧o.c≤7999
 s:o.site.size≤12
theorem OpD.f {o:Op5} (h:OpD o):OpF o:=⟨by have:=h.k;exact ⟨by omega,by omega⟩,by have:=h.a;exact ⟨by omega,by omega⟩,by have:=h.b;exact ⟨by omega,by omega⟩,by have:=h.c;exact ⟨by omega,by omega⟩,by have:=h.s;omega⟩
end Go.Proofs.YthapfcoajahegaaDoor.P
