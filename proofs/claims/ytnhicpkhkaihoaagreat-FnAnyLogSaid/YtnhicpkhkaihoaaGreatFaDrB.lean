/- A part of the proof. -/
import Derived.Test.YtnhicpkhkaihoaaGreatFaDrA
import Derived.Test.YtnhicpkhkaihoaaGreatFaTxtJ
namespace Go.Proofs.YtnhicpkhkaihoaaGreat.P
open Go Go.Proofs.YtnhicpkhkaihoaaGreat Go.Proofs.YtnhicpkhkaihoaaGreat.Eng
set_option linter.unusedVariables false
set_option maxHeartbeats 4000000
set_option linter.unusedVariables false
set_option linter.unusedSimpArgs false
attribute [local irreducible] prP gP gE gF AU ixW ldc ldg ldl stc stg scW mkW apW BG cl2 BX GP CZ
variable {w0:World}
theorem UO {l:List Int} {K:J2} (hl:(l.length:Int)<2^62) (h:K [.bool true] []):cl2 ⟨Tryz.prog,w0⟩ 38 DY.sg [] [tI l,tI l] K:=by
 refine DY.cl2 ?_
 unfold DY.txt
 simp only [AK,AS,AJ,AI,AM,AE,AH,AN,AO,AP,AL,AR,AT,AQ,BB,BE,BI,BH,BK,BJ,BF,AX,A4,AY,A1,AZ,A5]
 refine B9 (C3 (fun hh=>hh rfl) (A9 (fun i=>[iv i]) (fun _=>[]) l.length (fun _=>True) rfl rfl trivial (fun R i hi _ hR=> ?_)))
 simp only [AK,AS,AJ,AI,AM,AE,AH,AN,AO,AP,AL,AR,AT,AQ,BB,BE,BI,BH,BK,BJ,BF,AX,A4,AY,A1,AZ,A5]
 refine AV (AG (fun hlt=> ?_) fun _=>h)
 have hlt:i<l.length:=by omega
 exact AW hlt (ldI hlt (AW hlt (ldI hlt (B9 (C3 (fun hh=>hh rfl) (A6 (by omega) (hR hlt trivial)))))))
end Go.Proofs.YtnhicpkhkaihoaaGreat.P
