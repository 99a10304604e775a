/- A part of the proof. -/
import Derived.Test.YtklmcfpgdfibnaaNwWireF
import Derived.Test.YtklmcfpgdfibnaaNwLawTyAnswer
namespace Go.Proofs.Ytklmcfpgdfibnaa.P
open Go Go.Proofs.Ytklmcfpgdfibnaa Go.Proofs.Ytklmcfpgdfibnaa.Eng
set_option maxHeartbeats 4000000
set_option linter.unusedVariables false
set_option linter.unusedSimpArgs false
attribute [local irreducible] prP gP gE gF AV ixW ldc ldg ldl stc stg scW mkW apW BL cl2 BS EC CX
variable {w0:World}
def rdI (r:ByteArray):Option (Int×ByteArray):=if (ri r).2=0 then none else some ((ri r).1,dr r (ri r).2.toNat)
def rdN (r:ByteArray):Option (Int×ByteArray):=if (rv r).2=0 then none else some ((rv r).1,dr r (rv r).2.toNat)
def rdT (r:ByteArray):Option (ByteArray×ByteArray):=if (rt r).2=0 then none else some ((rt r).1,dr r (rt r).2.toNat)
def EL {β:Type} (f:List Int→Option β):Nat→List Int→Int→ByteArray→Option β
 | 0,acc,_,_=>f acc
 | m+1,acc,last,r=>(rdI r).bind fun p=>EL f m (acc++[w64 (last+p.1)]) (w64 (last+p.1)) p.2
abbrev Ev:=Op5×An
def E8 (o:Op5) (code val:Int) (r:ByteArray):Option Ev:=(rdN r).bind fun p=>if p.1>8 then none else EL (fun fr=>some (o,⟨code,val,fr⟩)) p.1.toNat [] o.a p.2
def E7 (o:Op5) (code:Int) (r:ByteArray):Option Ev:=(rdI r).bind fun p=>E8 o code (w64 (o.a+p.1)) p.2
def E6 (o:Op5) (r:ByteArray):Option Ev:=(rdN r).bind fun p=>E7 o p.1 p.2
def E5 (l:List ByteArray) (kind a b c k:Int) (r:ByteArray):Option Ev:=if k=0 then (rdT r).bind fun p=>E6 ⟨kind,a,b,c,p.1⟩ p.2 else if k≤l.length then E6 ⟨kind,a,b,c,gS l (k-1).toNat⟩ r else none
def E4 (l:List ByteArray) (kind a b c:Int) (r:ByteArray):Option Ev:=(rdN r).bind fun p=>E5 l kind a b c p.1 p.2
def E3 (l:List ByteArray) (kind a b:Int) (r:ByteArray):Option Ev:=(rdI r).bind fun p=>E4 l kind a b (w64 (a+p.1)) p.2
def E2 (l:List ByteArray) (kind a:Int) (r:ByteArray):Option Ev:=(rdI r).bind fun p=>E3 l kind a p.1 p.2
def E1 (last:Int) (l:List ByteArray) (kind:Int) (r:ByteArray):Option Ev:=(rdI r).bind fun p=>E2 l kind (w64 (last+p.1)) p.2
def E0 (last:Int) (l:List ByteArray) (s:ByteArray):Option Ev:=(rdI s).bind fun p=>E1 last l p.1 p.2
def uD (last:Int) (l:List ByteArray) (s:ByteArray) (e:Ev):Prop:=(J9 last l e.1 e.2).1≠⟨#[]⟩∧(J9 last l e.1 e.2).1=s
instance (last:Int) (l:List ByteArray) (s:ByteArray) (e:Ev):Decidable (uD last l s e):=inferInstanceAs (Decidable (_∧_))
structure RE where
 o:Op5
 a:An
 last:Int
 sites:List ByteArray
 ok:Bool
def L9 (last:Int) (l:List ByteArray) (s:ByteArray):RE:=match E0 last l s with
 | none=>⟨⟨0,0,0,0,⟨#[]⟩⟩,⟨0,0,[]⟩,last,l,false⟩
 | some e=>if uD last l s e then ⟨e.1,e.2,(J9 last l e.1 e.2).2.1,(J9 last l e.1 e.2).2.2,true⟩ else ⟨⟨0,0,0,0,⟨#[]⟩⟩,⟨0,0,[]⟩,last,l,false⟩
structure jY (X:Option Ev) (b:Bool) (Y:Option Ev):Prop where
 go:b=false→X=Y
 no:b=true→X=none
theorem jY.start {X Y:Option Ev} (h:X=Y):jY X false Y:=⟨fun _=>h,fun h=>by cases h⟩
theorem jY.off {X:Option Ev} {b:Bool} (h:jY X b none):X=none:=by
 cases b with
 | true=>exact h.no rfl
 | false=>exact h.go rfl
theorem b9 {n:Int} {l:List ByteArray} {o:Op5} {a:An} (h:8<a.freed.length):(J9 n l o a).1=⟨#[]⟩:=by
 unfold J9 eV
 rw [if_neg]
 intro hok
 have:=(Z4 hok).2.2.2.2.2.2.2.1
 omega
structure LpI (X:Option Ev) (o:Op5) (code val n:Int) (q:Nat×Int×List Int×ByteArray×Bool) (s0:ByteArray):Prop where
 inv:n≤8→jY X q.2.2.2.2 (EL (fun fr=>some (o,⟨code,val,fr⟩)) (n.toNat-q.1) q.2.2.1 q.2.1 q.2.2.2.1)
 big:n>8→X=none
 le:q.1≤n
 len:q.2.2.1.length=q.1
 sz:q.2.2.2.2=false→q.2.2.2.1.size+q.1≤s0.size
 sz2:q.2.2.2.1.size≤s0.size
 sz3:q.1≤s0.size+1
attribute [irreducible] rdI rdN rdT
end Go.Proofs.Ytklmcfpgdfibnaa.P
namespace Go.Proofs.Ytklmcfpgdfibnaa.P
open Go Go.Proofs.Ytklmcfpgdfibnaa Go.Proofs.Ytklmcfpgdfibnaa.Eng
set_option maxHeartbeats 4000000
set_option linter.unusedVariables false
set_option linter.unusedSimpArgs false
attribute [local irreducible] prP gP gE gF AV ixW ldc ldg ldl stc stg scW mkW apW BL cl2 BS EC CX
variable {w0:World}
def nZ:Nat→ByteArray→Option (List Int×ByteArray)
 | 0,r=>some ([],r)
 | m+1,r=>(rdI r).bind fun p=>(nZ m p.2).bind fun q=>some (p.1::q.1,q.2)
structure L10 (s:ByteArray) (a0 n:Nat) (q:Nat×List Int×Nat):Prop where
 le:q.1≤n
 len:q.2.1.length=q.1
 at_:a0≤q.2.2
 sz:q.2.2≤s.size
 go:nZ n (dr s a0)=(nZ (n-q.1) (dr s q.2.2)).map fun p=>(q.2.1++p.1,p.2)
def qY (l:List ByteArray) (r:ByteArray):Option (ByteArray×ByteArray):=(rdN r).bind fun p=>if p.1=0 then rdT p.2 else if p.1≤l.length then some (gS l (p.1-1).toNat,p.2) else none
attribute [irreducible] nZ qY
end Go.Proofs.Ytklmcfpgdfibnaa.P
