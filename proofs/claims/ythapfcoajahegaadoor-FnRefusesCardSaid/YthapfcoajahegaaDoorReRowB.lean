/- A part of the proof. -/
import Derived.Test.YthapfcoajahegaaDoorReRowT
import Derived.Test.YthapfcoajahegaaDoorReDrA
namespace Go.Proofs.YthapfcoajahegaaDoor.P
open Go Go.ChangeShapes Go.WideShapes Go.ChangeAt Go.RowKit Go.Proofs.YthapfcoajahegaaDoor Go.Proofs.YthapfcoajahegaaDoor.Eng Go.Proofs.YthapfcoajahegaaDoor.Open
set_option linter.unusedVariables false
abbrev dBs:=kSl (rQ .u8) (Nat.succ_pos 0)
theorem u6 (l:List Int):(l.flatMap fun n=>[T.c (.int .u8 n)])=tY l:=fm (fun n=>T.c (.int .u8 n)) l
theorem lQ {s:Eng.St} {a:List Int} {es:List Value} (h:dBs.E s a es): ∃v F,es=[v]∧TR s false (.l 1 (tY a)) v F:=by
 obtain ⟨v,F,rfl,t⟩:=vC sD h
 rw [u6] at t
 exact ⟨v,F,rfl,t⟩
def VT (a:List Int):Prop:= ∀x∈a,0≤x∧x≤255
theorem VT.f {a:List Int} (h:VT a) (hl: ¬(a.length:Int)>1048576):oM a:=⟨by omega,h⟩
theorem mR {H:Type} {enc:TypeId×Value→H} {w:World} {base:Nat} {spare:Nat→Bool} {held:Bool}: ∃G,W7 enc Tryd.prog w base spare held 22 dBs G∧ ∀a,G a→VT a:=by
 refine ⟨_,(aG Tryd.underlying22 (by kernel_rfl) (gZ Tryd.underlying5 (by kernel_rfl)) (Nat.succ_pos 0)),fun a h=> ?_⟩
 obtain ⟨h0,h1⟩:=h
 intro x hx
 have:=h1 x hx
 simp [Lit.wf,IntKind.min,IntKind.max,IntKind.signed,IntKind.bits] at this
 omega
end Go.Proofs.YthapfcoajahegaaDoor.P
