/- A part of the proof. -/
import Derived.Test.YtnhicpkhkaihoaaEvRowT
import Derived.Test.YtnhicpkhkaihoaaEvDrA
namespace Go.Proofs.Ytnhicpkhkaihoaa.P
open Go Go.ChangeShapes Go.WideShapes Go.ChangeAt Go.RowKit Go.Proofs.Ytnhicpkhkaihoaa Go.Proofs.Ytnhicpkhkaihoaa.Eng Go.Proofs.Ytnhicpkhkaihoaa.Open
set_option linter.unusedVariables false
abbrev dBs:=kSl (sA .u8) (Nat.succ_pos 0)
theorem vY (l:List Int):(l.flatMap fun n=>[T.c (.int .u8 n)])=tY l:=fm (fun n=>T.c (.int .u8 n)) l
theorem l8 {s:Eng.St} {a:List Int} {es:List Value} (h:dBs.E s a es): ∃v F,es=[v]∧TR s false (.l 1 (tY a)) v F:=by
 obtain ⟨v,F,rfl,t⟩:=vS rI h
 rw [vY] at t
 exact ⟨v,F,rfl,t⟩
def VQ (a:List Int):Prop:= ∀x∈a,0≤x∧x≤255
theorem VQ.f {a:List Int} (h:VQ a) (hl: ¬(a.length:Int)>1048576):OA a:=⟨by omega,h⟩
theorem oF {H:Type} {enc:TypeId×Value→H} {w:World} {base:Nat} {spare:Nat→Bool} {held:Bool}: ∃G,XZ enc Try.prog w base spare held 74 dBs G∧ ∀a,G a→VQ a:=by
 refine ⟨_,(aZ Try.underlying74 (by kernel_rfl) (j0 Try.underlying5 (by kernel_rfl)) (Nat.succ_pos 0)),fun a h=> ?_⟩
 obtain ⟨h0,h1⟩:=h
 intro x hx
 have:=h1 x hx
 simp [Lit.wf,IntKind.min,IntKind.max,IntKind.signed,IntKind.bits] at this
 omega
end Go.Proofs.Ytnhicpkhkaihoaa.P
