/- A part of the proof. -/
import Derived.Test.YtklmcfpgdfibnaaWaRchA
namespace Go.Proofs.Ytklmcfpgdfibnaa.P
open Go Go.Proofs.Ytklmcfpgdfibnaa Go.Proofs.Ytklmcfpgdfibnaa.Eng
set_option linter.unusedVariables false
set_option maxHeartbeats 4000000
set_option linter.unusedVariables false
set_option linter.unusedSimpArgs false
attribute [local irreducible] prP gP gE gF AX ixW ldc ldg ldl stc stg scW mkW apW BE cl2 BK C2 CI
variable {w0:World}
theorem R8 (os:List AE):(exts os).length≤8:=by
 rcases Nat.le_total os.length 8 with h | h
 ·have:=aA os;omega
 ·have e:exts os=pick (J9 os) 8:=MN (m:=8) (fun i hi=>by unfold J9;rw [if_neg];omega) _ h
  rw [e];exact HU (RA os) 8
theorem pY {os:List AE} {but:Int} {ids:List Int} (h:0<(HI os but ids).length):os.length=8:=by
 obtain ⟨h1,h2⟩:=T8 os but ids
 have hin:=J1 h
 obtain ⟨k,ek,_⟩:=h1.lv _ hin
 rw [ek] at hin
 obtain ⟨v,_,s,hs,_⟩:=(h2 k).1 hin
 exact (BF (l:=os) (id:=v) (by omega)).1
end Go.Proofs.Ytklmcfpgdfibnaa.P
