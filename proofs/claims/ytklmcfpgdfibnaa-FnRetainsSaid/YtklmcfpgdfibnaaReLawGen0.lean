/- A part of the proof. -/
import Derived.Test.YtklmcfpgdfibnaaReTxtB
namespace Go.Proofs.Ytklmcfpgdfibnaa.P
open Go Go.Proofs.Ytklmcfpgdfibnaa Go.Proofs.Ytklmcfpgdfibnaa.Eng
set_option linter.unusedVariables false
theorem xM {b n:Nat} {K:Value→Prop} (hn:b*n≤2^48) (h:K (iv n)):mkW b (iv n) (iv n) K:=⟨n,rfl,rfl,hn,h⟩
theorem nS {b n:Nat} {K:Value→Prop} (hn:b*n≤2^48) (h:K (iv n)):mkW b (I n) (I n) K:=xM hn h
set_option maxHeartbeats 4000000
set_option linter.unusedVariables false
set_option linter.unusedSimpArgs false
attribute [local irreducible] prP gP gE gF AY ixW ldc ldg ldl stc stg scW mkW apW BD cl2 BQ CZ B9
variable {w0:World}
section
variable {α:Type} (mk:Int→α→α) (sz:α→Int)
def szL:List α→Int
 | []=>0
 | x::l=>sz x+szL l
variable {mk sz}
theorem SW (h: ∀x,0≤sz x): ∀l:List α,0≤szL sz l
 | []=>by simp [szL]
 | x::l=>by have:=h x;have:=SW h l;simp only [szL];omega
end
end Go.Proofs.Ytklmcfpgdfibnaa.P
