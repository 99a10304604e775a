/- A part of the proof. -/
import Derived.Test.YtnhicpkhkaihoaaGreatRcLawHp
namespace Go.Proofs.YtnhicpkhkaihoaaGreat.P
open Go Go.Proofs.YtnhicpkhkaihoaaGreat Go.Proofs.YtnhicpkhkaihoaaGreat.Eng
set_option maxHeartbeats 4000000
set_option linter.unusedVariables false
set_option linter.unusedSimpArgs false
attribute [local irreducible] prP gP gE gF AG ixW ldc ldg ldl stc stg scW mkW apW BB cl2 BY FT DG
variable {w0:World}
def pick {α:Type} (f:Nat→List α):Nat→List α
 | 0=>[]
 | n+1=>pick f n++f n
theorem NH {α:Type} {f:Nat→List α} (h: ∀i,(f i).length≤1): ∀n,(pick f n).length≤n
 | 0=>Nat.le_refl _
 | n+1=>by have:=NH h n;have:=h n;simp only [pick,List.length_append];omega
def C0 (s g:Int):Int:=if (0≤s∧s≤7)∧1≤g∧g≤999 then s+8*g else -1
def AB (l:List AZ) (id:Int):Int:=if id<8∨l.length≠8 then -1 else if (ob l (id % 8).toNat).live=true∧(ob l (id % 8).toNat).gen=id/8 then id % 8 else -1
theorem IH {n lo hi:Int} {K:J2} (h:K [.bool (decide (lo≤n∧n≤hi))] []):cl2 ⟨Tryz.prog,w0⟩ 94 CA.sg [I n,I lo,I hi] [] K:=by
 refine CA.cl2 ?_
 unfold CA.txt
 repeat' (first | refine B2 ?_ | refine EE (by first | with_reducible assumption | omega) rfl ?_ | refine EJ (by first | with_reducible assumption | omega) rfl ?_ | refine FB ?_ | refine NT (fun _=> ?_) (fun _=> ?_))
 ·have e:decide (lo≤n∧n≤hi)=decide (n≤hi):=by rw [decide_eq_decide];omega
  rw [e] at h;exact h
 ·have e:decide (lo≤n∧n≤hi)=false:=decide_eq_false (by omega)
  rw [e] at h;exact h
theorem DA {n lo hi:Int} {K:J2} (h:K [.bool (decide (lo≤n∧n≤hi))] []):cl2 ⟨Tryz.prog,w0⟩ 54 BH.sg [I n,I lo,I hi] [] K:=by
 refine BH.cl2 ?_
 unfold BH.txt
 repeat' (first | refine B2 ?_ | refine EE (by first | with_reducible assumption | omega) rfl ?_ | refine EJ (by first | with_reducible assumption | omega) rfl ?_ | refine FB ?_ | refine NT (fun _=> ?_) (fun _=> ?_))
 ·have e:decide (lo≤n∧n≤hi)=decide (n≤hi):=by rw [decide_eq_decide];omega
  rw [e] at h;exact h
 ·have e:decide (lo≤n∧n≤hi)=false:=decide_eq_false (by omega)
  rw [e] at h;exact h
theorem OC {s g:Int} {K:J2} (h:K [I (C0 s g)] []):cl2 ⟨Tryz.prog,w0⟩ 168 HA.sg [I s,I g] [] K:=by
 refine HA.cl2 ?_
 unfold HA.txt
 repeat' (first | refine IH ?_ | refine OI ⟨by omega,by omega⟩ ?_ | refine B2 ?_ | refine NJ (by first | with_reducible assumption | omega) ?_ | refine JG (by first | with_reducible assumption | omega) ?_ | refine EE (by first | with_reducible assumption | omega) rfl ?_ | refine EJ (by first | with_reducible assumption | omega) rfl ?_ | refine B3 ?_ | refine CM ?_ | refine CC ⟨by omega,by omega⟩ ?_ | refine AW (fun _=> ?_) (fun _=> ?_) | refine LD (fun _=> ?_) (fun _=> ?_))
 ·rw [C0,if_neg (by omega)] at h;exact h
 ·rw [C0,if_pos (by omega)] at h;exact h
 ·rw [C0,if_neg (by omega)] at h;exact h
theorem MG {s g:Int} {K:J2} (h:K [I (C0 s g)] []):cl2 ⟨Tryz.prog,w0⟩ 58 FF.sg [I s,I g] [] K:=by
 refine FF.cl2 ?_
 unfold FF.txt
 repeat' (first | refine DA ?_ | refine OI ⟨by omega,by omega⟩ ?_ | refine B2 ?_ | refine NJ (by first | with_reducible assumption | omega) ?_ | refine JG (by first | with_reducible assumption | omega) ?_ | refine EE (by first | with_reducible assumption | omega) rfl ?_ | refine EJ (by first | with_reducible assumption | omega) rfl ?_ | refine B3 ?_ | refine CM ?_ | refine CC ⟨by omega,by omega⟩ ?_ | refine AW (fun _=> ?_) (fun _=> ?_) | refine LD (fun _=> ?_) (fun _=> ?_))
 ·rw [C0,if_neg (by omega)] at h;exact h
 ·rw [C0,if_pos (by omega)] at h;exact h
 ·rw [C0,if_neg (by omega)] at h;exact h
theorem PM {l:List AZ} {id:Int} (h:id<8∨l.length≠8):AB l id= -1:=if_pos h
theorem P5 {l:List AZ} {id:Int} (h1:8≤id) (h2:l.length=8) (hl:(id % 8).toNat<l.length) (h3:(ob l (id % 8).toNat).live=true) (h4:(ob l (id % 8).toNat).gen=id/8):AB l id=id % 8:=by
 rw [AB,if_neg (by omega),if_pos ⟨h3,h4⟩]
theorem QA {l:List AZ} {id:Int} (hl:(id % 8).toNat<l.length) (h:(ob l (id % 8).toNat).live=false∨(ob l (id % 8).toNat).gen≠id/8):AB l id= -1:=by
 rw [AB]
 split
 ·rfl
 ·rw [if_neg]
  rintro ⟨h1,h2⟩
  rcases h with h | h
  ·rw [h] at h1;cases h1
  ·exact h h2
theorem DF {a:List AZ} {b c d:List T} {id:Int} {K:J2} (hid:F64 id) (hl:(a.length:Int)<2^62) (h:K [I (AB a id)] []):cl2 ⟨Tryz.prog,w0⟩ 147 B1.sg [I id] [tR tO a,b,c,d] K:=by
 obtain ⟨i1,i2⟩:=hid
 refine B1.cl2 ?_
 unfold B1.txt
 simp only [AK,AQ,AN,AP,AS,AE,AI,AU,AL,AV,AT,AM,AR,AO,BF,BM,BL,BI,BK,BJ,BG,A7,A4,A5,A8,A6,A9]
 repeat' (first | refine B2 ?_ | refine UH (by with_reducible assumption) ?_ | refine nW (by with_reducible assumption) ?_ | refine xT (by with_reducible assumption) rfl ?_ | refine zJ (by with_reducible assumption) rfl ?_ | refine EE (by first | with_reducible assumption | omega) rfl ?_ | refine EJ (by first | with_reducible assumption | omega) rfl ?_ | refine B3 ?_ | refine AJ ?_ | refine B5 ?_ | refine LF (by omega) (by omega) ?_ | refine P7 (by omega) ⟨by omega,by omega⟩ (by omega) ?_ | refine WH (by omega) (by omega) ?_ | refine RF (by omega) ?_ | refine AW (fun _=> ?_) (fun _=> ?_) | refine LD (fun _=> ?_) (fun _=> ?_) | refine s7 (fun _=> ?_) (fun _=> ?_) | refine BP ?_)
 ·rw [PM (by omega)] at h;exact h
 ·rw [QA (by omega) (.inr (by assumption))] at h;exact h
 ·rename_i e1 e2
  rw [P5 (by omega) (by omega) (by omega) (by simpa using e1) (by simpa using e2)] at h;exact h
 ·rename_i e1
  rw [QA (by omega) (.inl (by simpa using e1))] at h;exact h
 ·rw [PM (by omega)] at h;exact h
theorem CP {a:List AZ} {b c d:List T} {id:Int} {K:J2} (hid:F64 id) (hl:(a.length:Int)<2^62) (h:K [I (AB a id)] []):cl2 ⟨Tryz.prog,w0⟩ 55 BU.sg [I id] [tR tO a,b,c,d] K:=by
 obtain ⟨i1,i2⟩:=hid
 refine BU.cl2 ?_
 unfold BU.txt
 simp only [AK,AQ,AN,AP,AS,AE,AI,AU,AL,AV,AT,AM,AR,AO,BF,BM,BL,BI,BK,BJ,BG,A7,A4,A5,A8,A6,A9]
 repeat' (first | refine B2 ?_ | refine UH (by with_reducible assumption) ?_ | refine nW (by with_reducible assumption) ?_ | refine xT (by with_reducible assumption) rfl ?_ | refine zJ (by with_reducible assumption) rfl ?_ | refine EE (by first | with_reducible assumption | omega) rfl ?_ | refine EJ (by first | with_reducible assumption | omega) rfl ?_ | refine B3 ?_ | refine AJ ?_ | refine B5 ?_ | refine LF (by omega) (by omega) ?_ | refine P7 (by omega) ⟨by omega,by omega⟩ (by omega) ?_ | refine WH (by omega) (by omega) ?_ | refine JF (by omega) (by decide) rfl ?_ | refine MT (by omega) rfl ?_ | refine AW (fun _=> ?_) (fun _=> ?_) | refine LD (fun _=> ?_) (fun _=> ?_) | refine s7 (fun _=> ?_) (fun _=> ?_) | refine BP ?_)
 ·rw [PM (by omega)] at h;exact h
 ·rw [QA (by omega) (.inr (by assumption))] at h;exact h
 ·rename_i e1 e2
  rw [P5 (by omega) (by omega) (by omega) (by simpa using e1) (by simpa using e2)] at h;exact h
 ·rename_i e1
  rw [QA (by omega) (.inl (by simpa using e1))] at h;exact h
 ·rw [PM (by omega)] at h;exact h
end Go.Proofs.YtnhicpkhkaihoaaGreat.P
