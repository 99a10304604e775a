/- A part of the proof. -/
import Derived.Test.YtklmcfpgdfibnaaPtRecD
import Derived.Test.YtklmcfpgdfibnaaPtDrC
namespace Go.Proofs.Ytklmcfpgdfibnaa.P
open Go Go.Proofs.Ytklmcfpgdfibnaa Go.Proofs.Ytklmcfpgdfibnaa.Eng
set_option linter.unusedVariables false
set_option maxHeartbeats 4000000
set_option linter.unusedVariables false
set_option linter.unusedSimpArgs false
attribute [local irreducible] prP gP gE gF AW ixW ldc ldg ldl stc stg scW mkW apW BK cl2 BW EI CM
variable {w0:World}
theorem T2 {h:Hp} {K:J2} (hf:Fits h) (hk:K [.bool true] []):cl2 ⟨Try.prog,w0⟩ 36 FA.sg [] (trees h++trees h) K:=by
 obtain ⟨f1,f2,f3,f4,f5,_⟩:=hf
 refine FA.cl2 ?_
 unfold FA.txt
 simp only [AG,AM,AK,AP,AI,AD,AE,AR,AQ,AO,AL,AJ,AN,AH,BC,BF,BJ,BG,BH,BI,BE,A6,A7,A1,A4,A5,AZ]
 repeat' (first | refine MS (by omega) ?_ | refine BO ?_ | refine NB ?_ | refine F5 (by first | with_reducible assumption | omega) ?_ | refine C5 (by first | with_reducible assumption | omega) rfl ?_ | refine TU rfl ?_ | refine DQ (by first | with_reducible assumption | omega) ?_ | refine B8 ?_ | refine B1 ?_)
 refine BB (fun i=>[iv i]) (fun _=>[]) h.A8.length (fun _=>True) rfl rfl trivial (fun R i hi _ hR=> ?_)
 simp only [AG,AM,AK,AP,AI,AD,AE,AR,AQ,AO,AL,AJ,AN,AH,BC,BF,BJ,BG,BH,BI,BE,A6,A7,A1,A4,A5,AZ]
 refine AX (AV (fun hlt=> ?_) fun _=> ?_)
 ·have hlt:i<h.A8.length:=by omega
  have hR:=hR hlt trivial
  have hfl:=f2 _ (List.getElem_mem hlt)
  rw [DN hlt] at hfl
  refine AT hlt (K9 hlt (AT hlt (K9 hlt ?_)))
  simp only [gX,iF,lX,mN,lY,iL,nO]
  rw [GZ hlt]
  have nb: ∀b:Bool, ¬b≠b:=fun b hh=>hh rfl
  repeat' (first | refine MS (by omega) ?_ | refine F5 (nb _) ?_ | refine C5 (nb _) rfl ?_ | refine BO ?_ | refine F5 (by first | with_reducible assumption | omega) ?_ | refine C5 (by first | with_reducible assumption | omega) rfl ?_ | refine BU ?_ | refine B8 ?_ | refine DI ?_ | refine BA (by omega) ?_ | refine B1 ?_)
  exact hR
 ·refine BB (fun i=>[iv i]) (fun _=>[]) h.B2.length (fun _=>True) rfl rfl trivial (fun R i hi _ hR=> ?_)
  simp only [AG,AM,AK,AP,AI,AD,AE,AR,AQ,AO,AL,AJ,AN,AH,BC,BF,BJ,BG,BH,BI,BE,A6,A7,A1,A4,A5,AZ]
  refine AX (AV (fun hlt=> ?_) fun _=> ?_)
  ·have hlt:i<h.B2.length:=by omega
   have hR:=hR hlt trivial
   refine AT hlt (VU hlt (AT hlt (VU hlt ?_)))
   simp only [mA,qT]
   exact lW (DQ (fun hh=>hh rfl) (BA (by omega) hR))
  ·refine BB (fun i=>[iv i]) (fun _=>[]) h.sites.length (fun _=>True) rfl rfl trivial (fun R i hi _ hR=> ?_)
   simp only [AG,AM,AK,AP,AI,AD,AE,AR,AQ,AO,AL,AJ,AN,AH,BC,BF,BJ,BG,BH,BI,BE,A6,A7,A1,A4,A5,AZ]
   refine AX (AV (fun hlt=> ?_) fun _=>hk)
   have hlt:i<h.sites.length:=by omega
   exact AT hlt (ldS hlt (AT hlt (ldS hlt (mO (DQ (fun hh=>hh rfl) (BA (by omega) (hR hlt trivial)))))))
theorem Q1 {l:List An} {K:J2} (hl:(l.length:Int)<2^62) (hx: ∀o∈l,(o.freed.length:Int)<2^62) (hk:K [.bool true] []):cl2 ⟨Try.prog,w0⟩ 78 DG.sg [] [tR tA l,tR tA l] K:=by
 refine DG.cl2 ?_
 unfold DG.txt
 simp only [AG,AM,AK,AP,AI,AD,AE,AR,AQ,AO,AL,AJ,AN,AH,BC,BF,BJ,BG,BH,BI,BE,A6,A7,A1,A4,A5,AZ]
 refine B8 (DQ (fun hh=>hh rfl) (BB (fun i=>[iv i]) (fun _=>[]) l.length (fun _=>True) rfl rfl trivial (fun R i hi _ hR=> ?_)))
 simp only [AG,AM,AK,AP,AI,AD,AE,AR,AQ,AO,AL,AJ,AN,AH,BC,BF,BJ,BG,BH,BI,BE,A6,A7,A1,A4,A5,AZ]
 refine AX (AV (fun hlt=> ?_) fun _=>hk)
 have hlt:i<l.length:=by omega
 have hfl:=hx _ (List.getElem_mem hlt)
 rw [m6 hlt] at hfl
 refine AT hlt (dE hlt (AT hlt (dE hlt ?_)))
 simp only [qM,rE]
 rw [lR hlt]
 exact MB hfl (B1 (BU (BA (by omega) (hR hlt trivial))))
end Go.Proofs.Ytklmcfpgdfibnaa.P
