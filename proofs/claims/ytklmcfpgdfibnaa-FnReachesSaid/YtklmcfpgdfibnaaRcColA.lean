/- A part of the proof. -/
import Derived.Test.YtklmcfpgdfibnaaRcSchB
import Derived.Test.YtklmcfpgdfibnaaRcSchD
namespace Go.Proofs.Ytklmcfpgdfibnaa.P
open Go Go.Proofs.Ytklmcfpgdfibnaa Go.Proofs.Ytklmcfpgdfibnaa.Eng
set_option linter.unusedVariables false
set_option maxHeartbeats 4000000
set_option linter.unusedVariables false
set_option linter.unusedSimpArgs false
attribute [local irreducible] prP gP gE gF AW ixW ldc ldg ldl stc stg scW mkW apW BE cl2 BS C6 CO
variable {w0:World}
theorem NL {l:List Int} {K:J2} (hl:(l.length:Int)<2^62) (h:K [.bool true] []):cl2 ⟨Try.prog,w0⟩ 31 DL.sg [] [tI l,tI l] K:=by
 refine DL.cl2 ?_
 unfold DL.txt
 simp only [AH,AP,AK,AM,AO,AE,AI,AR,AN,AL,AS,AJ,AT,AQ,BH,BL,BM,BN,BP,BO,BK,A5,A8,A4,A9,A6,A7]
 refine DK (FU (fun hh=>hh rfl) (BG (fun i=>[iv i]) (fun _=>[]) l.length (fun _=>True) rfl rfl trivial (fun R i hi _ hR=> ?_)))
 simp only [AH,AP,AK,AM,AO,AE,AI,AR,AN,AL,AS,AJ,AT,AQ,BH,BL,BM,BN,BP,BO,BK,A5,A8,A4,A9,A6,A7]
 refine BA (AX (fun hlt=> ?_) fun _=>h)
 have hlt:i<l.length:=by omega
 exact AU hlt (ldI hlt (AU hlt (ldI hlt (DK (FU (fun hh=>hh rfl) (BB (by omega) (hR hlt trivial)))))))
end Go.Proofs.Ytklmcfpgdfibnaa.P
namespace Go.Proofs.Ytklmcfpgdfibnaa.P
open Go Go.Proofs.Ytklmcfpgdfibnaa Go.Proofs.Ytklmcfpgdfibnaa.Eng
set_option linter.unusedVariables false
set_option maxHeartbeats 4000000
set_option linter.unusedVariables false
set_option linter.unusedSimpArgs false
attribute [local irreducible] prP gP gE gF AW ixW ldc ldg ldl stc stg scW mkW apW BE cl2 BS C6 CO
variable {w0:World}
theorem cW {l:List Int} {p q:Int→Bool} (h: ∀v∈l,q v= !p v):(l.filter p).length+(l.filter q).length=l.length:=by
 induction l with
 | nil=>rfl
 | cons a l ih=>
   have ih:=ih fun v hv=>h v (by simp [hv])
   have ha:=h a (by simp)
   simp only [List.filter_cons,ha]
   cases p a <;> simp <;> omega
theorem oM (os:List AG) (ids:List Int):(DV os ids).length+((GF os).filter fun v=>decide (v∉DV os ids)).length=(GF os).length:=by
 refine cW fun v hv=> ?_
 have:v∈DV os ids↔v∈HJ os (H6 os (-1) ids):=by
  unfold DV
  rw [List.mem_filter,decide_eq_true_eq]
  exact ⟨fun h=>h.2,fun h=>⟨hv,h⟩⟩
 simp only [this]
 by_cases hm:v∈HJ os (H6 os (-1) ids) <;> simp [hm]
end Go.Proofs.Ytklmcfpgdfibnaa.P
