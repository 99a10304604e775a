/- A part of the proof. -/
import Derived.Test.YtnhicpkhkaihoaaGreatRcRowT
import Derived.Test.YtnhicpkhkaihoaaGreatRcLawTyAnswer
namespace Go.Proofs.YtnhicpkhkaihoaaGreat.P
open Go Go.ChangeShapes Go.WideShapes Go.ChangeAt Go.RowKit Go.Proofs.YtnhicpkhkaihoaaGreat Go.Proofs.YtnhicpkhkaihoaaGreat.Eng Go.Proofs.YtnhicpkhkaihoaaGreat.Open
set_option linter.unusedVariables false
abbrev dOp:=X9 dI (X9 dI (X9 dI (X9 dI yR)))
abbrev u5:=kSl dOp (Nat.succ_pos 4)
abbrev AOp:=Int×Int×Int×Int×ByteArray
def sZ (x:AOp):Op5:=⟨x.1,x.2.1,x.2.2.1,x.2.2.2.1,x.2.2.2.2⟩
def b7 (l:List AOp):List Op5:=l.map sZ
theorem xP:Rdt dOp fun x=>tP (sZ x):=T6 XL (T6 XL (T6 XL (T6 XL uR)))
theorem oU {s:St} {a:List AOp} {es:List Value} (h:u5.E s a es): ∃v F,es=[v]∧TR s false (.l 5 (tR tP (b7 a))) v F:=by
 obtain ⟨v,F,rfl,t⟩:=Az xP h
 refine ⟨v,F,rfl, ?_⟩
 rw [pN (f:=tP) (g:=sZ) fun x=>rfl] at t;exact t
structure OpF (o:Op5):Prop where
 k:F64 o.kind
 a:F64 o.a
 b:F64 o.b
 c:F64 o.c
 s:(o.site.size:Int)<2^63
structure z9 (l:List Op5):Prop where
 len:(l.length:Int)<2^63
 all: ∀o∈l,OpF o
structure Be (l:List An):Prop where
 len:(l.length:Int)<2^63
 all: ∀a∈l,(a.freed.length:Int)<2^63∧F64 a.code∧F64 a.val∧ ∀x∈a.freed,F64 x
def SD (a:List AOp):Prop:=z9 (b7 a)
theorem yN {x:AOp} (h:(Lit.int .i64 x.1).wf=true∧(Lit.int .i64 x.2.1).wf=true∧(Lit.int .i64 x.2.2.1).wf=true∧(Lit.int .i64 x.2.2.2.1).wf=true∧x.2.2.2.2.size≤maxLen):OpF (sZ x):=by
 have hm:maxLen=2^63-1:=rfl
 obtain ⟨h1,h2,h3,h4,h5⟩:=h
 exact ⟨eF h1,eF h2,eF h3,eF h4,by simp only [sZ];omega⟩
set_option maxRecDepth 100000 in
theorem sK {H:Type} {enc:TypeId×Value→H} {w:World} {base:Nat} {spare:Nat→Bool} {held:Bool}: ∃G,SU enc Tryz.prog w base spare held 48 u5 G∧ ∀a,G a→SD a:=by
 refine ⟨_,hS Tryz.underlying48 (by kernel_rfl) (dE Tryz.underlying93 (by kernel_rfl) (OG rfl rfl (R7 Tryz.underlying3 (by kernel_rfl)) (OG rfl rfl (R7 Tryz.underlying3 (by kernel_rfl)) (OG rfl rfl (R7 Tryz.underlying3 (by kernel_rfl)) (OG rfl rfl (R7 Tryz.underlying3 (by kernel_rfl)) (hU rfl rfl (fH Tryz.underlying9 (by kernel_rfl)))))))) (Nat.succ_pos 4),fun a h=> ?_⟩
 have hm:maxLen=2^63-1:=rfl
 obtain ⟨h0,h1⟩:=h
 refine ⟨by simp only [b7,List.length_map];omega,fun o ho=> ?_⟩
 obtain ⟨x,hx,rfl⟩:=List.mem_map.1 ho
 exact yN (h1 x hx)
end Go.Proofs.YtnhicpkhkaihoaaGreat.P
