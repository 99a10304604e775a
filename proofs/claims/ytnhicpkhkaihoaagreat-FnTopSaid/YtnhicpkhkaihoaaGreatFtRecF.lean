/- A part of the proof. -/
import Derived.Test.YtnhicpkhkaihoaaGreatFtRecE
namespace Go.Proofs.YtnhicpkhkaihoaaGreat.P
open Go Go.Proofs.YtnhicpkhkaihoaaGreat Go.Proofs.YtnhicpkhkaihoaaGreat.Eng
set_option linter.unusedVariables false
set_option maxHeartbeats 4000000
set_option linter.unusedVariables false
set_option linter.unusedSimpArgs false
attribute [local irreducible] prP gP gE gF AV ixW ldc ldg ldl stc stg scW mkW apW BC cl2 BW F6 C2
variable {w0:World}
attribute [local irreducible] CD wQ Y9 decode encode
theorem xN {L:List Int} (g:YU L) {K:J2} (done:K [.bool true] []):J8.txt ⟨Tryz.prog,w0⟩ (tY L) K:=by
 unfold J8.txt
 refine m0 (AT (fun _=>done) fun hsz=> ?_)
 have hb:=g.f hsz
 refine UZ hb fun l hl ho=> ?_
 refine bK (by omega) ho (bV (by omega) ho ?_)
 have et:wQ l=encode l (CD l l.length).2:=by unfold wQ;rw [show min l.length 400=l.length from by omega]
 rw [show min l.length 400=l.length from by omega,et]
 have ok:=(JL l l.length).1
 have al:=(JL l l.length).2
 have fr:=V0 ho l.length (Nat.le_refl _)
 have hiff:=lC (l:=l) (ans:=(CD l l.length).2) (by omega) (fun k hk=>qU l l.length k hk) al.symm
 have hrp:=rH l 0
 have hde:=decode_encode (ops:=l) (ans:=(CD l l.length).2)
 have hz:=kT l (CD l l.length).2
 obtain ⟨e,he⟩: ∃e,CD l l.length=e:=⟨_,rfl⟩
 rw [he] at ok al fr hiff hrp hde hz ⊢
 have ef:=ok.fits
 have hfx: ∀o∈e.2,(o.freed.length:Int)<2^62:=fun o hx=>by have:=fr o hx;omega
 obtain ⟨t,ht⟩: ∃t,encode l e.2=t:=⟨_,rfl⟩
 rw [ht] at hiff hde hz ⊢
 have ns: ¬t≠t:=fun hh=>hh rfl
 repeat' (first | refine Q2 ef ?_ | refine OT (by omega) hfx ?_ | refine GA ns ?_ | refine CJ ns rfl ?_ | refine M7 ?_ | refine BM ?_ | refine UH rfl ?_ | refine BT ?_ | refine RD ?_ | refine BP ?_ | simp only [AI,AL,AH,AJ,AM,AE,AG,AR,AP,AN,AQ,AO,AS,AK,BD,BF,BI,BJ,BH,BG,BE,A1,AZ,AY,AX,A4,A5])
 refine bP (by omega) (fun h1 h2=> ?_) fun hno=> ?_
 ·have hne:=hiff.2 h1
  have hd:=hde hne
  refine BP (BT (T5 (by omega) (bU (by omega) ?_)))
  rw [hd,hrp]
  have h00:(0:Int)=0:=rfl
  repeat' (first | refine Q2 ef ?_ | refine OT (by omega) hfx ?_ | refine Y7 (by omega) ?_ | (refine T2 (by omega) (by omega) (fun i=>by have:=wH fr i;omega) ?_;simp only [ht]) | refine HV rfl ?_ | refine CL rfl rfl ?_ | exact done | refine BM ?_ | refine QC ?_ | refine TL rfl ?_ | refine BL ?_ | refine IS ?_ | simp only [AI,AL,AH,AJ,AM,AE,AG,AR,AP,AN,AQ,AO,AS,AK,BD,BF,BI,BJ,BH,BG,BE,A1,AZ,AY,AX,A4,A5])
  all_goals (simpa using done)
 ·refine BP (BQ (IS ?_))
  have:t=⟨#[]⟩:=Classical.byContradiction fun hh=>hno ⟨hiff.1 hh,by omega⟩
  rw [decide_eq_true this];exact done
end Go.Proofs.YtnhicpkhkaihoaaGreat.P
