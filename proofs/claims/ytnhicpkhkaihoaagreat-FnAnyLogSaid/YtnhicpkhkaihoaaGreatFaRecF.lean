/- A part of the proof. -/
import Derived.Test.YtnhicpkhkaihoaaGreatFaRecE
namespace Go.Proofs.YtnhicpkhkaihoaaGreat.P
open Go Go.Proofs.YtnhicpkhkaihoaaGreat Go.Proofs.YtnhicpkhkaihoaaGreat.Eng
set_option linter.unusedVariables false
set_option maxHeartbeats 4000000
set_option linter.unusedVariables false
set_option linter.unusedSimpArgs false
attribute [local irreducible] prP gP gE gF AU ixW ldc ldg ldl stc stg scW mkW apW BG cl2 BX GP CZ
variable {w0:World}
attribute [local irreducible] DG Fm OS decode encode
theorem nB {s:ByteArray} (h:(decode s).2.2≠0):(decode s).1=[]∧(decode s).2.1=[]:=by
 unfold decode at h ⊢
 split
 ·exact ⟨rfl,rfl⟩
 ·rename_i h0
  rw [if_neg h0] at h
  split
  ·exact ⟨rfl,rfl⟩
  ·rename_i q hq
   rw [hq] at h
   exact absurd rfl h
theorem nV {L:List Int} (g:bD L) {K:J2} (done:K [.bool true] []):H4.txt ⟨Tryz.prog,w0⟩ (tY L) K:=by
 unfold H4.txt
 refine mP (AG (fun _=>done) fun hsz=> ?_)
 have hb:=g.f hsz
 refine VM hb fun s hs=> ?_
 refine UA (by omega) (UJ (by omega) (cS (by omega) (cV (by omega) ?_)))
 have hbad:=nB (s:=s)
 have hfew:=fun h=>mI (s:=s) h (by omega)
 have hed:=encode_decode (s:=s)
 obtain ⟨d1,d2,d3⟩:=US s
 have hbd:=W4 s
 have r1:(OS (decode s)).code=if (OS (decode s)).n=(decode s).1.length then (decode s).2.2 else 3:=by unfold OS;rfl
 have r2:(OS (decode s)).n≤(decode s).1.length:=by unfold OS;exact w3 _ _ _
 have r3:DU (OS (decode s)).hp:=by unfold OS;exact (ND _ _).1
 generalize OS (decode s)=r at r1 r2 r3 ⊢
 generalize decode s=d at hbad hfew hed d1 d2 d3 hbd r1 r2 ⊢
 have ef:=r3.fits
 have nn: ∀n:Int, ¬n≠n:=fun n hh=>hh rfl
 simp only [AK,AS,AJ,AI,AM,AE,AH,AN,AO,AP,AL,AR,AT,AQ,BB,BE,BI,BH,BK,BJ,BF,AX,A4,AY,A1,AZ,A5]
 by_cases hc:d.2.2=0
 ·have hfew:=hfew hc
  obtain ⟨he1,he2⟩:=hed hc hfew
  have hcode:r.code=0∨r.code=3:=by rw [r1];split <;> omega
  have hq:decide ((r.n:Int)=(d.1.length:Int))=decide (r.code=0):=by
   rw [r1];split
   ·rename_i h;simp [h,hc]
   ·rename_i h;simp;omega
  have hnc: ¬d.2.2≠0:=fun hh=>hh hc
  repeat' (first | refine RM ef ?_ | refine EP (nn _) ?_ | refine CD (nn _) rfl ?_ | refine C3 hnc ?_ | refine UM ef r3.iJ (fun _=> ?_) (fun hno=>absurd r3 hno) | refine cL (by omega) (by omega) (fun i=>by have:=xC hbd.2.2 i;omega) ?_ | exact done | refine BM ?_ | refine RT ?_ | refine Ba (by first | with_reducible assumption | omega) ?_ | refine QK ?_ | refine IF (by first | with_reducible assumption | omega) ?_ | refine CI (by first | with_reducible assumption | omega) rfl ?_ | refine CD (by first | with_reducible assumption | omega) rfl ?_ | refine RF rfl ?_ | refine BT ?_ | refine DV ?_ | refine BA ?_ | refine B9 ?_ | refine IE ?_ | refine qI ?_ | refine F5 (fun _=> ?_) (fun _=> ?_) | refine BU ?_)
  all_goals first | (exfalso;omega) | exact done
 ·obtain ⟨e1,e2⟩:=hbad hc
  have l1:d.1.length=0:=by rw [e1];rfl
  have l2:d.2.1.length=0:=by rw [e2];rfl
  have hcd:r.code=d.2.2:=by rw [r1,if_pos (by omega)]
  repeat' (first | refine RM ef ?_ | refine EP (nn _) ?_ | refine CD (nn _) rfl ?_ | refine CM hc ?_ | refine BM ?_ | refine IF (by first | with_reducible assumption | omega) ?_ | refine CI (by first | with_reducible assumption | omega) rfl ?_ | refine BT ?_ | refine BA ?_ | refine B9 ?_ | refine BU ?_)
  all_goals first | exact done | (rw [decide_eq_true (by omega)];exact done)
end Go.Proofs.YtnhicpkhkaihoaaGreat.P
