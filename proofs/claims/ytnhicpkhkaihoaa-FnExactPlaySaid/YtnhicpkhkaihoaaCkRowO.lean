/- A part of the proof. -/
import Derived.Test.YtnhicpkhkaihoaaCkRowT
import Derived.Test.YtnhicpkhkaihoaaCkLawTyAnswer
namespace Go.Proofs.Ytnhicpkhkaihoaa.P
open Go Go.ChangeShapes Go.WideShapes Go.ChangeAt Go.RowKit Go.Proofs.Ytnhicpkhkaihoaa Go.Proofs.Ytnhicpkhkaihoaa.Eng Go.Proofs.Ytnhicpkhkaihoaa.Open
set_option linter.unusedVariables false
abbrev dOp:=WQ dI (WQ dI (WQ dI (WQ dI sX)))
abbrev pI:=kSl dOp (Nat.succ_pos 4)
abbrev AOp:=Int×Int×Int×Int×ByteArray
def nO (x:AOp):Op5:=⟨x.1,x.2.1,x.2.2.1,x.2.2.2.1,x.2.2.2.2⟩
def YQ (l:List AOp):List Op5:=l.map nO
theorem tB:Rdt dOp fun x=>tP (nO x):=SK US (SK US (SK US (SK US qF)))
theorem lC {s:St} {a:List AOp} {es:List Value} (h:pI.E s a es): ∃v F,es=[v]∧TR s false (.l 5 (tR tP (YQ a))) v F:=by
 obtain ⟨v,F,rfl,t⟩:=wL tB h
 refine ⟨v,F,rfl, ?_⟩
 rw [kC (f:=tP) (g:=nO) fun x=>rfl] at t;exact t
structure OpF (o:Op5):Prop where
 k:F64 o.kind
 a:F64 o.a
 b:F64 o.b
 c:F64 o.c
 s:(o.site.size:Int)<2^63
structure uH (l:List Op5):Prop where
 len:(l.length:Int)<2^63
 all: ∀o∈l,OpF o
structure wN (l:List An):Prop where
 len:(l.length:Int)<2^63
 all: ∀a∈l,(a.freed.length:Int)<2^63∧F64 a.code∧F64 a.val∧ ∀x∈a.freed,F64 x
def PV (a:List AOp):Prop:=uH (YQ a)
theorem sI {x:AOp} (h:(Lit.int .i64 x.1).wf=true∧(Lit.int .i64 x.2.1).wf=true∧(Lit.int .i64 x.2.2.1).wf=true∧(Lit.int .i64 x.2.2.2.1).wf=true∧x.2.2.2.2.size≤maxLen):OpF (nO x):=by
 have hm:maxLen=2^63-1:=rfl
 obtain ⟨h1,h2,h3,h4,h5⟩:=h
 exact ⟨ZV h1,ZV h2,ZV h3,ZV h4,by simp only [nO];omega⟩
set_option maxRecDepth 100000 in
theorem mA {H:Type} {enc:TypeId×Value→H} {w:World} {base:Nat} {spare:Nat→Bool} {held:Bool}: ∃G,QZ enc Try.prog w base spare held 40 pI G∧ ∀a,G a→PV a:=by
 refine ⟨_,cY Try.underlying40 (by kernel_rfl) (aI Try.underlying86 (by kernel_rfl) (ML rfl rfl (P1 Try.underlying3 (by kernel_rfl)) (ML rfl rfl (P1 Try.underlying3 (by kernel_rfl)) (ML rfl rfl (P1 Try.underlying3 (by kernel_rfl)) (ML rfl rfl (P1 Try.underlying3 (by kernel_rfl)) (cS rfl rfl (aS Try.underlying9 (by kernel_rfl)))))))) (Nat.succ_pos 4),fun a h=> ?_⟩
 have hm:maxLen=2^63-1:=rfl
 obtain ⟨h0,h1⟩:=h
 refine ⟨by simp only [YQ,List.length_map];omega,fun o ho=> ?_⟩
 obtain ⟨x,hx,rfl⟩:=List.mem_map.1 ho
 exact sI (h1 x hx)
end Go.Proofs.Ytnhicpkhkaihoaa.P
