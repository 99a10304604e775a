/- A part of the proof. -/
import Derived.Test.YthapfcoajahegaaAlRowT
import Derived.Test.YthapfcoajahegaaAlLawTyNode
namespace Go.Proofs.Ythapfcoajahegaa.P
open Go Go.ChangeShapes Go.WideShapes Go.ChangeAt Go.RowKit Go.Proofs.Ythapfcoajahegaa Go.Proofs.Ythapfcoajahegaa.Eng Go.Proofs.Ythapfcoajahegaa.Open
set_option linter.unusedVariables false
abbrev dOp:=RD dI (RD dI (RD dI (RD dI qC)))
abbrev j6:=kSl dOp (Nat.succ_pos 4)
abbrev AOp:=Int×Int×Int×Int×ByteArray
def jF (x:AOp):Op5:=⟨x.1,x.2.1,x.2.2.1,x.2.2.2.1,x.2.2.2.2⟩
def V5 (l:List AOp):List Op5:=l.map jF
abbrev dAn:=RD dI (RD dI dIs)
abbrev oK:=kSl dAn (Nat.succ_pos 2)
abbrev AAn:=Int×Int×List Int
def m8 (x:AAn):An:=⟨x.1,x.2.1,x.2.2⟩
def VW (l:List AAn):List An:=l.map m8
theorem pL:Rdt dOp fun x=>tP (jF x):=MV ND (MV ND (MV ND (MV ND mV)))
theorem qU:Rdt dAn fun x=>tA (m8 x):=by
 have h:=MV ND (MV ND (lD (hsz:=Nat.succ_pos 0) ND))
 refine ⟨fun x=>rfl,fun s x cs hx=> ?_⟩
 have:=h.2 s x cs hx
 simp only [tM] at this;exact this
theorem hC {s:St} {a:List AOp} {es:List Value} (h:j6.E s a es): ∃v F,es=[v]∧TR s false (.l 5 (tR tP (V5 a))) v F:=by
 obtain ⟨v,F,rfl,t⟩:=rZ pL h
 refine ⟨v,F,rfl, ?_⟩
 rw [WW (f:=tP) (g:=jF) fun x=>rfl] at t;exact t
theorem iA {s:St} {a:List AAn} {es:List Value} (h:oK.E s a es): ∃v F,es=[v]∧TR s false (.l 3 (tR tA (VW a))) v F:=by
 obtain ⟨v,F,rfl,t⟩:=rZ qU h
 refine ⟨v,F,rfl, ?_⟩
 rw [WW (f:=tA) (g:=m8) fun x=>rfl] at t;exact t
structure OpF (o:Op5):Prop where
 k:F64 o.kind
 a:F64 o.a
 b:F64 o.b
 c:F64 o.c
 s:(o.site.size:Int)<2^63
structure sI (l:List Op5):Prop where
 len:(l.length:Int)<2^63
 all: ∀o∈l,OpF o
structure sO (l:List An):Prop where
 len:(l.length:Int)<2^63
 all: ∀a∈l,(a.freed.length:Int)<2^63∧F64 a.code∧F64 a.val∧ ∀x∈a.freed,F64 x
def O6 (a:List AOp):Prop:=sI (V5 a)
def O5 (a:List AAn):Prop:=sO (VW a)
theorem pZ {x:AOp} (h:(Lit.int .i64 x.1).wf=true∧(Lit.int .i64 x.2.1).wf=true∧(Lit.int .i64 x.2.2.1).wf=true∧(Lit.int .i64 x.2.2.2.1).wf=true∧x.2.2.2.2.size≤maxLen):OpF (jF x):=by
 have hm:maxLen=2^63-1:=rfl
 obtain ⟨h1,h2,h3,h4,h5⟩:=h
 exact ⟨QF h1,QF h2,QF h3,QF h4,by simp only [jF];omega⟩
set_option maxRecDepth 100000 in
theorem lZ {H:Type} {enc:TypeId×Value→H} {w:World} {base:Nat} {spare:Nat→Bool} {held:Bool}: ∃G,NX enc Try.prog w base spare held 22 j6 G∧ ∀a,G a→O6 a:=by
 refine ⟨_,OI Try.underlying22 (by kernel_rfl) (RH Try.underlying41 (by kernel_rfl) (I9 rfl rfl (JZ Try.underlying3 (by kernel_rfl)) (I9 rfl rfl (JZ Try.underlying3 (by kernel_rfl)) (I9 rfl rfl (JZ Try.underlying3 (by kernel_rfl)) (I9 rfl rfl (JZ Try.underlying3 (by kernel_rfl)) (R7 rfl rfl (Y2 Try.underlying9 (by kernel_rfl)))))))) (Nat.succ_pos 4),fun a h=> ?_⟩
 have hm:maxLen=2^63-1:=rfl
 obtain ⟨h0,h1⟩:=h
 refine ⟨by simp only [V5,List.length_map];omega,fun o ho=> ?_⟩
 obtain ⟨x,hx,rfl⟩:=List.mem_map.1 ho
 exact pZ (h1 x hx)
set_option maxRecDepth 100000 in
theorem jQ {H:Type} {enc:TypeId×Value→H} {w:World} {base:Nat} {spare:Nat→Bool} {held:Bool}: ∃G,NX enc Try.prog w base spare held 23 oK G∧ ∀a,G a→O5 a:=by
 refine ⟨_,OI Try.underlying23 (by kernel_rfl) (RH Try.underlying45 (by kernel_rfl) (I9 rfl rfl (JZ Try.underlying3 (by kernel_rfl)) (I9 rfl rfl (JZ Try.underlying3 (by kernel_rfl)) (R7 rfl rfl (OI Try.underlying43 (by kernel_rfl) (JZ Try.underlying3 (by kernel_rfl)) (Nat.succ_pos 0)))))) (Nat.succ_pos 2),fun a h=> ?_⟩
 have hm:maxLen=2^63-1:=rfl
 obtain ⟨h0,h1⟩:=h
 refine ⟨by simp only [VW,List.length_map];omega,fun o ho=> ?_⟩
 obtain ⟨x,hx,rfl⟩:=List.mem_map.1 ho
 obtain ⟨i1,i2,i3,i4⟩:=h1 x hx
 exact ⟨by simp only [m8];omega,QF i1,QF i2,fun y hy=>QF (i4 y hy)⟩
end Go.Proofs.Ythapfcoajahegaa.P
