/- A part of the proof. -/
import Derived.Test.YthapfcoajahegaaDoorReTxtB
namespace Go.Proofs.YthapfcoajahegaaDoor.P
open Go Go.Proofs.YthapfcoajahegaaDoor Go.Proofs.YthapfcoajahegaaDoor.Eng
set_option linter.unusedVariables false
theorem tZ {b n:Nat} {K:Value→Prop} (hn:b*n≤2^48) (h:K (iv n)):mkW b (iv n) (iv n) K:=⟨n,rfl,rfl,hn,h⟩
theorem qX {b n:Nat} {K:Value→Prop} (hn:b*n≤2^48) (h:K (iv n)):mkW b (I n) (I n) K:=tZ hn h
set_option maxHeartbeats 4000000
set_option linter.unusedVariables false
set_option linter.unusedSimpArgs false
attribute [local irreducible] prP gP gE gF AY ixW ldc ldg ldl stc stg scW mkW apW A6 cl2 BL C5 BX
variable {w0:World}
section
variable {α:Type} (mk:Int→α→α) (sz:α→Int)
def szL:List α→Int
 | []=>0
 | x::l=>sz x+szL l
def mkL:Int→List α→List α
 | _,[]=>[]
 | k,x::l=>mk k x::mkL (k+sz x) l
variable {mk sz}
theorem RM (h: ∀x,0≤sz x): ∀l:List α,0≤szL sz l
 | []=>by simp [szL]
 | x::l=>by have:=h x;have:=RM h l;simp only [szL];omega
def mid (mk:Int→α→α) (sz:α→Int) (k:Int) (l:List α) (i:Nat):List α:=mkL mk sz k (l.take i)++l.drop i
end
end Go.Proofs.YthapfcoajahegaaDoor.P
