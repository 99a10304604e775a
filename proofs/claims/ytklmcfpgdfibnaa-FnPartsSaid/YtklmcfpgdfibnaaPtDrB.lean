/- A part of the proof. -/
import Derived.Test.YtklmcfpgdfibnaaPtDrA
import Derived.Test.YtklmcfpgdfibnaaPtTxtJ
namespace Go.Proofs.Ytklmcfpgdfibnaa.P
open Go Go.Proofs.Ytklmcfpgdfibnaa Go.Proofs.Ytklmcfpgdfibnaa.Eng
set_option linter.unusedVariables false
set_option maxHeartbeats 4000000
set_option linter.unusedVariables false
set_option linter.unusedSimpArgs false
attribute [local irreducible] prP gP gE gF AW ixW ldc ldg ldl stc stg scW mkW apW BK cl2 BW EI CM
variable {w0:World}
theorem MS {l:List Int} {K:J2} (hl:(l.length:Int)<2^62) (h:K [.bool true] []):cl2 ⟨Try.prog,w0⟩ 104 ED.sg [] [tI l,tI l] K:=by
 refine ED.cl2 ?_
 unfold ED.txt
 simp only [AG,AM,AK,AP,AI,AD,AE,AR,AQ,AO,AL,AJ,AN,AH,BC,BF,BJ,BG,BH,BI,BE,A6,A7,A1,A4,A5,AZ]
 refine B8 (DQ (fun hh=>hh rfl) (BB (fun i=>[iv i]) (fun _=>[]) l.length (fun _=>True) rfl rfl trivial (fun R i hi _ hR=> ?_)))
 simp only [AG,AM,AK,AP,AI,AD,AE,AR,AQ,AO,AL,AJ,AN,AH,BC,BF,BJ,BG,BH,BI,BE,A6,A7,A1,A4,A5,AZ]
 refine AX (AV (fun hlt=> ?_) fun _=>h)
 have hlt:i<l.length:=by omega
 exact AT hlt (ldI hlt (AT hlt (ldI hlt (B8 (DQ (fun hh=>hh rfl) (BA (by omega) (hR hlt trivial)))))))
theorem MB {a:An} {K:J2} (hl:(a.freed.length:Int)<2^62) (h:K [.bool true] []):cl2 ⟨Try.prog,w0⟩ 79 CX.sg [I a.code,I a.val,I a.code,I a.val] [tI a.freed,tI a.freed] K:=by
 refine CX.cl2 ?_
 unfold CX.txt
 refine BM (BO (BO (BO (BO (H4 rfl (BM (C4 rfl rfl (BO (BO (BO (BO (H4 rfl ?_))))))))))))
 exact MS hl (C4 rfl rfl h)
end Go.Proofs.Ytklmcfpgdfibnaa.P
