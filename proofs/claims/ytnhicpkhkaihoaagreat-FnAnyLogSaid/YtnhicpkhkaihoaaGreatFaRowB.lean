/- A part of the proof. -/
import Derived.Test.YtnhicpkhkaihoaaGreatFaRowT
import Derived.Test.YtnhicpkhkaihoaaGreatFaDrA
namespace Go.Proofs.YtnhicpkhkaihoaaGreat.P
open Go Go.ChangeShapes Go.WideShapes Go.ChangeAt Go.RowKit Go.Proofs.YtnhicpkhkaihoaaGreat Go.Proofs.YtnhicpkhkaihoaaGreat.Eng Go.Proofs.YtnhicpkhkaihoaaGreat.Open
set_option linter.unusedVariables false
abbrev dBs:=kSl (Cb .u8) (Nat.succ_pos 0)
theorem Fw (l:List Int):(l.flatMap fun n=>[T.c (.int .u8 n)])=tY l:=fm (fun n=>T.c (.int .u8 n)) l
theorem wK {s:Eng.St} {a:List Int} {es:List Value} (h:dBs.E s a es): ∃v F,es=[v]∧TR s false (.l 1 (tY a)) v F:=by
 obtain ⟨v,F,rfl,t⟩:=Fi Bs h
 rw [Fw] at t
 exact ⟨v,F,rfl,t⟩
def bD (a:List Int):Prop:= ∀x∈a,0≤x∧x≤255
theorem bD.f {a:List Int} (h:bD a) (hl: ¬(a.length:Int)>1048576):SQ a:=⟨by omega,h⟩
theorem yY {H:Type} {enc:TypeId×Value→H} {w:World} {base:Nat} {spare:Nat→Bool} {held:Bool}: ∃G,dG enc Tryz.prog w base spare held 22 dBs G∧ ∀a,G a→bD a:=by
 refine ⟨_,(lV Tryz.underlying22 (by kernel_rfl) (rD Tryz.underlying5 (by kernel_rfl)) (Nat.succ_pos 0)),fun a h=> ?_⟩
 obtain ⟨h0,h1⟩:=h
 intro x hx
 have:=h1 x hx
 simp [Lit.wf,IntKind.min,IntKind.max,IntKind.signed,IntKind.bits] at this
 omega
end Go.Proofs.YtnhicpkhkaihoaaGreat.P
