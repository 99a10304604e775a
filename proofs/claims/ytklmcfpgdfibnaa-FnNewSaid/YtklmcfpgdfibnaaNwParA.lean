/- A part of the proof. -/
import Derived.Test.YtklmcfpgdfibnaaNwRecE
namespace Go.Proofs.Ytklmcfpgdfibnaa.P
open Go Go.Proofs.Ytklmcfpgdfibnaa Go.Proofs.Ytklmcfpgdfibnaa.Eng
set_option linter.unusedVariables false
set_option maxHeartbeats 4000000
set_option linter.unusedVariables false
set_option linter.unusedSimpArgs false
attribute [local irreducible] prP gP gE gF AV ixW ldc ldg ldl stc stg scW mkW apW BL cl2 BS EC CX
variable {w0:World}
theorem TH {L:List Int} {K:J2} (hb:R6 L) (h: ∀l:List Op5,l.length≤70→(∀o∈l,OpF o)→K [] [tR tP l]):cl2 ⟨Try.prog,w0⟩ 43 EW.sg [] [tY L] K:=by
 refine EW.cl2 ?_
 unfold EW.txt
 refine YI hb fun z=> ?_
 exact ZK (m:=70) hb (Nat.zero_le _) (by omega) fun l i1 z1 hl ho h1=>h l hl fun o hx=>(ho o hx).f
attribute [local irreducible] C8
end Go.Proofs.Ytklmcfpgdfibnaa.P
