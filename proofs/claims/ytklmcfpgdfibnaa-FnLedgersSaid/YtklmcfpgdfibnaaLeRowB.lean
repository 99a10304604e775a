/- A part of the proof. -/
import Derived.Test.YtklmcfpgdfibnaaLeRowT
import Derived.Test.YtklmcfpgdfibnaaLeDrA
namespace Go.Proofs.Ytklmcfpgdfibnaa.P
open Go Go.ChangeShapes Go.WideShapes Go.ChangeAt Go.RowKit Go.Proofs.Ytklmcfpgdfibnaa Go.Proofs.Ytklmcfpgdfibnaa.Eng Go.Proofs.Ytklmcfpgdfibnaa.Open
set_option linter.unusedVariables false
abbrev dBs:=kSl (xK .u8) (Nat.succ_pos 0)
theorem Bp (l:List Int):(l.flatMap fun n=>[T.c (.int .u8 n)])=tY l:=fm (fun n=>T.c (.int .u8 n)) l
theorem nG {s:Eng.St} {a:List Int} {es:List Value} (h:dBs.E s a es): ∃v F,es=[v]∧TR s false (.l 1 (tY a)) v F:=by
 obtain ⟨v,F,rfl,t⟩:=Be w3 h
 rw [Bp] at t
 exact ⟨v,F,rfl,t⟩
def UM (a:List Int):Prop:= ∀x∈a,0≤x∧x≤255
theorem UM.f {a:List Int} (h:UM a) (hl: ¬(a.length:Int)>1048576):SU a:=⟨by omega,h⟩
theorem rW {H:Type} {enc:TypeId×Value→H} {w:World} {base:Nat} {spare:Nat→Bool} {held:Bool}: ∃G,X3 enc Try.prog w base spare held 22 dBs G∧ ∀a,G a→UM a:=by
 refine ⟨_,(bX Try.underlying22 (by kernel_rfl) (kN Try.underlying5 (by kernel_rfl)) (Nat.succ_pos 0)),fun a h=> ?_⟩
 obtain ⟨h0,h1⟩:=h
 intro x hx
 have:=h1 x hx
 simp [Lit.wf,IntKind.min,IntKind.max,IntKind.signed,IntKind.bits] at this
 omega
end Go.Proofs.Ytklmcfpgdfibnaa.P
