/- A part of the proof. -/
import Derived.Test.YtnhicpkhkaihoaaGreatFtRowT
import Derived.Test.YtnhicpkhkaihoaaGreatFtDrA
namespace Go.Proofs.YtnhicpkhkaihoaaGreat.P
open Go Go.ChangeShapes Go.WideShapes Go.ChangeAt Go.RowKit Go.Proofs.YtnhicpkhkaihoaaGreat Go.Proofs.YtnhicpkhkaihoaaGreat.Eng Go.Proofs.YtnhicpkhkaihoaaGreat.Open
set_option linter.unusedVariables false
abbrev dBs:=kSl (Aa .u8) (Nat.succ_pos 0)
theorem Ep (l:List Int):(l.flatMap fun n=>[T.c (.int .u8 n)])=tY l:=fm (fun n=>T.c (.int .u8 n)) l
theorem sI {s:Eng.St} {a:List Int} {es:List Value} (h:dBs.E s a es): ∃v F,es=[v]∧TR s false (.l 1 (tY a)) v F:=by
 obtain ⟨v,F,rfl,t⟩:=Fe Az h
 rw [Ep] at t
 exact ⟨v,F,rfl,t⟩
def YU (a:List Int):Prop:= ∀x∈a,0≤x∧x≤255
theorem YU.f {a:List Int} (h:YU a) (hl: ¬(a.length:Int)>1048576):WN a:=⟨by omega,h⟩
theorem xY {H:Type} {enc:TypeId×Value→H} {w:World} {base:Nat} {spare:Nat→Bool} {held:Bool}: ∃G,dG enc Tryz.prog w base spare held 22 dBs G∧ ∀a,G a→YU a:=by
 refine ⟨_,(jP Tryz.underlying22 (by kernel_rfl) (qS Tryz.underlying5 (by kernel_rfl)) (Nat.succ_pos 0)),fun a h=> ?_⟩
 obtain ⟨h0,h1⟩:=h
 intro x hx
 have:=h1 x hx
 simp [Lit.wf,IntKind.min,IntKind.max,IntKind.signed,IntKind.bits] at this
 omega
end Go.Proofs.YtnhicpkhkaihoaaGreat.P
