/- A part of the proof. -/
import Derived.Test.YtnhicpkhkaihoaaGreatFtDrA
import Derived.Test.YtnhicpkhkaihoaaGreatFtTxtJ
namespace Go.Proofs.YtnhicpkhkaihoaaGreat.P
open Go Go.Proofs.YtnhicpkhkaihoaaGreat Go.Proofs.YtnhicpkhkaihoaaGreat.Eng
set_option linter.unusedVariables false
set_option maxHeartbeats 4000000
set_option linter.unusedVariables false
set_option linter.unusedSimpArgs false
attribute [local irreducible] prP gP gE gF AV ixW ldc ldg ldl stc stg scW mkW apW BC cl2 BW F6 C2
variable {w0:World}
theorem PL {l:List Int} {K:J2} (hl:(l.length:Int)<2^62) (h:K [.bool true] []):cl2 ⟨Tryz.prog,w0⟩ 38 FY.sg [] [tI l,tI l] K:=by
 refine FY.cl2 ?_
 unfold FY.txt
 simp only [AI,AL,AH,AJ,AM,AE,AG,AR,AP,AN,AQ,AO,AS,AK,BD,BF,BI,BJ,BH,BG,BE,A1,AZ,AY,AX,A4,A5]
 refine CB (C7 (fun hh=>hh rfl) (A8 (fun i=>[iv i]) (fun _=>[]) l.length (fun _=>True) rfl rfl trivial (fun R i hi _ hR=> ?_)))
 simp only [AI,AL,AH,AJ,AM,AE,AG,AR,AP,AN,AQ,AO,AS,AK,BD,BF,BI,BJ,BH,BG,BE,A1,AZ,AY,AX,A4,A5]
 refine AW (AT (fun hlt=> ?_) fun _=>h)
 have hlt:i<l.length:=by omega
 exact AU hlt (ldI hlt (AU hlt (ldI hlt (CB (C7 (fun hh=>hh rfl) (A6 (by omega) (hR hlt trivial)))))))
theorem VO {a:An} {K:J2} (hl:(a.freed.length:Int)<2^62) (h:K [.bool true] []):cl2 ⟨Tryz.prog,w0⟩ 39 EI.sg [I a.code,I a.val,I a.code,I a.val] [tI a.freed,tI a.freed] K:=by
 refine EI.cl2 ?_
 unfold EI.txt
 refine BL (BM (BM (BM (BM (HV rfl (BL (CL rfl rfl (BM (BM (BM (BM (HV rfl ?_))))))))))))
 exact PL hl (CL rfl rfl h)
end Go.Proofs.YtnhicpkhkaihoaaGreat.P
