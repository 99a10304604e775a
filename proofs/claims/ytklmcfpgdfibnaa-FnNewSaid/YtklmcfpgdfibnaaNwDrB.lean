/- A part of the proof. -/
import Derived.Test.YtklmcfpgdfibnaaNwDrA
import Derived.Test.YtklmcfpgdfibnaaNwTxtJ
namespace Go.Proofs.Ytklmcfpgdfibnaa.P
open Go Go.Proofs.Ytklmcfpgdfibnaa Go.Proofs.Ytklmcfpgdfibnaa.Eng
set_option linter.unusedVariables false
set_option maxHeartbeats 4000000
set_option linter.unusedVariables false
set_option linter.unusedSimpArgs false
attribute [local irreducible] prP gP gE gF AV ixW ldc ldg ldl stc stg scW mkW apW BL cl2 BS EC CX
variable {w0:World}
theorem P3 {l:List Int} {K:J2} (hl:(l.length:Int)<2^62) (h:K [.bool true] []):cl2 ⟨Try.prog,w0⟩ 104 FU.sg [] [tI l,tI l] K:=by
 refine FU.cl2 ?_
 unfold FU.txt
 simp only [AG,AK,AN,AM,AI,AD,AE,AP,AO,AJ,AQ,AR,AL,AH,BE,BJ,BH,BG,BK,BI,BF,A4,A8,A7,A6,A5,AZ]
 refine CN (DE (fun hh=>hh rfl) (BD (fun i=>[iv i]) (fun _=>[]) l.length (fun _=>True) rfl rfl trivial (fun R i hi _ hR=> ?_)))
 simp only [AG,AK,AN,AM,AI,AD,AE,AP,AO,AJ,AQ,AR,AL,AH,BE,BJ,BH,BG,BK,BI,BF,A4,A8,A7,A6,A5,AZ]
 refine AX (AW (fun hlt=> ?_) fun _=>h)
 have hlt:i<l.length:=by omega
 exact AS hlt (ldI hlt (AS hlt (ldI hlt (CN (DE (fun hh=>hh rfl) (BA (by omega) (hR hlt trivial)))))))
end Go.Proofs.Ytklmcfpgdfibnaa.P
