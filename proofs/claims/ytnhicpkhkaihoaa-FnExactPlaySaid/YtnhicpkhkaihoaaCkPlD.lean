/- A part of the proof. -/
import Derived.Test.YtnhicpkhkaihoaaCkPlC
namespace Go.Proofs.Ytnhicpkhkaihoaa.P
open Go Go.Proofs.Ytnhicpkhkaihoaa Go.Proofs.Ytnhicpkhkaihoaa.Eng
set_option linter.unusedVariables false
set_option maxHeartbeats 4000000
set_option linter.unusedVariables false
set_option linter.unusedSimpArgs false
attribute [local irreducible] prP gP gE gF AU ixW ldc ldg ldl stc stg scW mkW apW BD cl2 BW FR DK
variable {w0:World}
theorem dQ {l:List Op5} (ho: ∀o∈l,OpF o): ∀i,i≤l.length→ ∀a∈(G7 l i).2,a.freed.length≤9
 | 0,_=>by simp [G7]
 | i+1,hi=>fun a ha=>by
   simp only [G7] at ha
   rcases List.mem_append.1 ha with ha | ha
   ·exact dQ ho i (by omega) a ha
   ·have ha:a=(JG (G7 l i).1 (po l i)).2:=by simpa using ha
    subst ha
    have ok:=(L5 l i).1
    exact (nS (ok.st ok.qG) (by rw [←dZ (by omega)];exact (ho _ (List.getElem_mem _)).c)).fr
attribute [local irreducible] G7 tF XX
theorem XQ {a:List AOp} (g:PV a) {K:J2} (done:K [.bool true] []):DZ.txt ⟨Try.prog,w0⟩ (tR tP (YQ a)) K:=by
 unfold PV at g
 generalize YQ a=l at g ⊢
 unfold DZ.txt
 refine ZY g ⟨by omega,by omega⟩ (AV (DN (by omega) done)) fun r r0 r1 r2=>AV (B2 (by omega) ?_)
 have ok:=(L5 l (min l.length 400)).1
 have al:=(L5 l (min l.length 400)).2
 have fr:=dQ g.all (min l.length 400) (by omega)
 refine SL (by omega) (dC (by omega) g.all ?_)
 obtain ⟨e,he⟩: ∃e,G7 l (min l.length 400)=e:=⟨_,rfl⟩
 rw [he] at ok al fr ⊢
 have ef:=ok.fits
 have g8:=ef.sz
 have so:szL KC l≤l.length*5:=RI fun x _=>by unfold KC;omega
 have so0:=HH TF l
 have sa:szL JD e.2≤e.2.length*11:=RI fun x hx=>by have:=fr x hx;unfold JD;omega
 have sa0:=HH PN e.2
 repeat' (first | refine SL (by omega) ?_ | (refine eN (by omega) g.all ?_;simp only [he]) | refine X9 ef ?_ | refine ZR (by omega) ?_ | refine SX (by omega) (fun o ho=>by have:=fr o ho;omega) ?_ | refine V6 (by omega) (by omega) (by omega) ?_ | refine T8 ef ⟨by omega,by omega⟩ ?_ | refine Q1 (by omega) (by omega) (by omega) ?_ | refine T9 ef ⟨by omega,by omega⟩ ?_ | refine RH (by omega) (by omega) (by omega) ?_ | refine BY (BN ?_) | refine B2 (fun h=>h rfl) ?_ | exact done | refine BZ ?_ | refine PG ?_ | refine JB (by first | with_reducible assumption | omega) ?_ | refine E9 (by first | with_reducible assumption | omega) rfl ?_ | refine B2 (by first | with_reducible assumption | omega) ?_ | refine AV ?_ | refine B6 ?_ | refine BY ?_)
end Go.Proofs.Ytnhicpkhkaihoaa.P
