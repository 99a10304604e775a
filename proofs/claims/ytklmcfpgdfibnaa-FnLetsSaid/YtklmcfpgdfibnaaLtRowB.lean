/- A part of the proof. -/
import Derived.Test.YtklmcfpgdfibnaaLtRowT
import Derived.Test.YtklmcfpgdfibnaaLtDrA
namespace Go.Proofs.Ytklmcfpgdfibnaa.P
open Go Go.ChangeShapes Go.WideShapes Go.ChangeAt Go.RowKit Go.Proofs.Ytklmcfpgdfibnaa Go.Proofs.Ytklmcfpgdfibnaa.Eng Go.Proofs.Ytklmcfpgdfibnaa.Open
set_option linter.unusedVariables false
abbrev dBs:=kSl (sF .u8) (Nat.succ_pos 0)
theorem vD (l:List Int):(l.flatMap fun n=>[T.c (.int .u8 n)])=tY l:=fm (fun n=>T.c (.int .u8 n)) l
theorem m3 {s:Eng.St} {a:List Int} {es:List Value} (h:dBs.E s a es): ∃v F,es=[v]∧TR s false (.l 1 (tY a)) v F:=by
 obtain ⟨v,F,rfl,t⟩:=uV qV h
 rw [vD] at t
 exact ⟨v,F,rfl,t⟩
def VU (a:List Int):Prop:= ∀x∈a,0≤x∧x≤255
theorem VU.f {a:List Int} (h:VU a) (hl: ¬(a.length:Int)>1048576):SO a:=⟨by omega,h⟩
theorem oG {H:Type} {enc:TypeId×Value→H} {w:World} {base:Nat} {spare:Nat→Bool} {held:Bool}: ∃G,W6 enc Try.prog w base spare held 22 dBs G∧ ∀a,G a→VU a:=by
 refine ⟨_,(aU Try.underlying22 (by kernel_rfl) (iO Try.underlying5 (by kernel_rfl)) (Nat.succ_pos 0)),fun a h=> ?_⟩
 obtain ⟨h0,h1⟩:=h
 intro x hx
 have:=h1 x hx
 simp [Lit.wf,IntKind.min,IntKind.max,IntKind.signed,IntKind.bits] at this
 omega
end Go.Proofs.Ytklmcfpgdfibnaa.P
