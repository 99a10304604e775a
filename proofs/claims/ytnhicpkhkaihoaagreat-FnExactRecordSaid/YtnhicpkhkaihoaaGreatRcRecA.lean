/- A part of the proof. -/
import Derived.Test.YtnhicpkhkaihoaaGreatRcDrB
import Derived.Test.YtnhicpkhkaihoaaGreatRcCodB
namespace Go.Proofs.YtnhicpkhkaihoaaGreat.P
open Go Go.Proofs.YtnhicpkhkaihoaaGreat Go.Proofs.YtnhicpkhkaihoaaGreat.Eng
set_option linter.unusedVariables false
set_option maxHeartbeats 4000000
set_option linter.unusedVariables false
set_option linter.unusedSimpArgs false
attribute [local irreducible] prP gP gE gF AG ixW ldc ldg ldl stc stg scW mkW apW BB cl2 BY FT DG
variable {w0:World}
theorem T1 {l:List Op5} (ho: ∀o∈l,OpF o): ∀i,i≤l.length→ ∀a∈(FH l i).2,a.freed.length≤9
 | 0,_=>by simp [FH]
 | i+1,hi=>fun a ha=>by
   simp only [FH] at ha
   rcases List.mem_append.1 ha with ha | ha
   ·exact T1 ho i (by omega) a ha
   ·have ha:a=(KJ (FH l i).1 (po l i)).2:=by simpa using ha
    subst ha
    have ok:=(K6 l i).1
    exact (qL (ok.st ok.vG) (by rw [←gC (by omega)];exact (ho _ (List.getElem_mem _)).c)).fr
theorem w5 {l:List An} {b:Nat} (h: ∀a∈l,a.freed.length≤b) (i:Nat):(an l i).freed.length≤b:=by
 unfold an
 rw [List.getD_eq_getElem?_getD]
 rcases Nat.lt_or_ge i l.length with hi | hi
 ·rw [List.getElem?_eq_getElem hi];exact h _ (List.getElem_mem hi)
 ·rw [List.getElem?_eq_none hi];exact Nat.zero_le _
noncomputable def uN (l:List Op5):ByteArray:=encode l (FH l (min l.length 400)).2
theorem bJ {l:List Op5} {K:J2} (hl:(l.length:Int)≤2^40) (ho: ∀o∈l,OpF o) (h:K [.string (uN l)] (trees (FH l (min l.length 400)).1++[tR tA (FH l (min l.length 400)).2])):cl2 ⟨Tryz.prog,w0⟩ 9 H4.sg [] [tR tP l] K:=by
 refine H4.cl2 (iA hl ho ?_)
 have al:=(K6 l (min l.length 400)).2
 have fr:=T1 ho (min l.length 400) (by omega)
 refine bL hl (by omega) (fun i=>by have:=w5 fr i;omega) ?_
 exact h
theorem aO {l:List Op5} {K:J2} (hl:(l.length:Int)≤2^40) (ho: ∀o∈l,OpF o) (h:K [.string (uN l)] (trees (FH l (min l.length 400)).1++[tR tA (FH l (min l.length 400)).2])):cl2 ⟨Tryz.prog,w0⟩ 10 IM.sg [] [tR tP l] K:=by
 refine IM.cl2 (jE hl ho ?_)
 have al:=(K6 l (min l.length 400)).2
 have fr:=T1 ho (min l.length 400) (by omega)
 refine bD hl (by omega) (fun i=>by have:=w5 fr i;omega) ?_
 exact h
noncomputable def agr (ops:List Op5) (ans:List An):Nat→Nat
 | 0=>0
 | i+1=>if agr ops ans i=i∧(KJ (FH ops i).1 (po ops i)).2=an ans i then i+1 else agr ops ans i
structure RB2 where
 code:Int
 n:Nat
 hp:Hp
 ops:List Op5
 ans:List An
noncomputable def Al (d:List Op5×List An×Int):RB2:=⟨if agr d.1 d.2.1 d.1.length=d.1.length then d.2.2 else 3,agr d.1 d.2.1 d.1.length,(FH d.1 (agr d.1 d.2.1 d.1.length)).1,d.1.take (agr d.1 d.2.1 d.1.length),(FH d.1 (agr d.1 d.2.1 d.1.length)).2⟩
end Go.Proofs.YtnhicpkhkaihoaaGreat.P
