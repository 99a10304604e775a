/- A part of the proof. -/
import Derived.Test.YtklmcfpgdfibnaaNwRecD
import Derived.Test.YtklmcfpgdfibnaaNwDrC
namespace Go.Proofs.Ytklmcfpgdfibnaa.P
open Go Go.Proofs.Ytklmcfpgdfibnaa Go.Proofs.Ytklmcfpgdfibnaa.Eng
set_option linter.unusedVariables false
set_option maxHeartbeats 4000000
set_option linter.unusedVariables false
set_option linter.unusedSimpArgs false
attribute [local irreducible] prP gP gE gF AV ixW ldc ldg ldl stc stg scW mkW apW BL cl2 BS EC CX
variable {w0:World}
theorem TN {h:Hp} {K:J2} (hf:Fits h) (hk:K [.bool true] []):cl2 ⟨Try.prog,w0⟩ 36 EZ.sg [] (trees h++trees h) K:=by
 obtain ⟨f1,f2,f3,f4,f5,_⟩:=hf
 refine EZ.cl2 ?_
 unfold EZ.txt
 simp only [AG,AK,AN,AM,AI,AD,AE,AP,AO,AJ,AQ,AR,AL,AH,BE,BJ,BH,BG,BK,BI,BF,A4,A8,A7,A6,A5,AZ]
 repeat' (first | refine P3 (by omega) ?_ | refine BW ?_ | refine OZ ?_ | refine F8 (by first | with_reducible assumption | omega) ?_ | refine DW (by first | with_reducible assumption | omega) rfl ?_ | refine cF rfl ?_ | refine DE (by first | with_reducible assumption | omega) ?_ | refine CN ?_ | refine CT ?_)
 refine BD (fun i=>[iv i]) (fun _=>[]) h.BB.length (fun _=>True) rfl rfl trivial (fun R i hi _ hR=> ?_)
 simp only [AG,AK,AN,AM,AI,AD,AE,AP,AO,AJ,AQ,AR,AL,AH,BE,BJ,BH,BG,BK,BI,BF,A4,A8,A7,A6,A5,AZ]
 refine AX (AW (fun hlt=> ?_) fun _=> ?_)
 ·have hlt:i<h.BB.length:=by omega
  have hR:=hR hlt trivial
  have hfl:=f2 _ (List.getElem_mem hlt)
  rw [DH hlt] at hfl
  refine AS hlt (MB hlt (AS hlt (MB hlt ?_)))
  simp only [fS,fQ,kR,kH,jO,eG,mF]
  rw [G3 hlt]
  have nb: ∀b:Bool, ¬b≠b:=fun b hh=>hh rfl
  repeat' (first | refine P3 (by omega) ?_ | refine F8 (nb _) ?_ | refine DW (nb _) rfl ?_ | refine BW ?_ | refine F8 (by first | with_reducible assumption | omega) ?_ | refine DW (by first | with_reducible assumption | omega) rfl ?_ | refine BY ?_ | refine CN ?_ | refine D7 ?_ | refine BA (by omega) ?_ | refine CT ?_)
  exact hR
 ·refine BD (fun i=>[iv i]) (fun _=>[]) h.CA.length (fun _=>True) rfl rfl trivial (fun R i hi _ hR=> ?_)
  simp only [AG,AK,AN,AM,AI,AD,AE,AP,AO,AJ,AQ,AR,AL,AH,BE,BJ,BH,BG,BK,BI,BF,A4,A8,A7,A6,A5,AZ]
  refine AX (AW (fun hlt=> ?_) fun _=> ?_)
  ·have hlt:i<h.CA.length:=by omega
   have hR:=hR hlt trivial
   refine AS hlt (X2 hlt (AS hlt (X2 hlt ?_)))
   simp only [jP,p9]
   exact mJ (DE (fun hh=>hh rfl) (BA (by omega) hR))
  ·refine BD (fun i=>[iv i]) (fun _=>[]) h.sites.length (fun _=>True) rfl rfl trivial (fun R i hi _ hR=> ?_)
   simp only [AG,AK,AN,AM,AI,AD,AE,AP,AO,AJ,AQ,AR,AL,AH,BE,BJ,BH,BG,BK,BI,BF,A4,A8,A7,A6,A5,AZ]
   refine AX (AW (fun hlt=> ?_) fun _=>hk)
   have hlt:i<h.sites.length:=by omega
   exact AS hlt (ldS hlt (AS hlt (ldS hlt (kL (DE (fun hh=>hh rfl) (BA (by omega) (hR hlt trivial)))))))
end Go.Proofs.Ytklmcfpgdfibnaa.P
