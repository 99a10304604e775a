/- A part of the proof. -/
import Derived.Test.YtnhicpkhkaihoaaGreatRpLawHp
namespace Go.Proofs.YtnhicpkhkaihoaaGreat.P
open Go Go.Proofs.YtnhicpkhkaihoaaGreat Go.Proofs.YtnhicpkhkaihoaaGreat.Eng
set_option maxHeartbeats 4000000
set_option linter.unusedVariables false
set_option linter.unusedSimpArgs false
attribute [local irreducible] prP gP gE gF AG ixW ldc ldg ldl stc stg scW mkW apW BA cl2 B6 G8 C3
variable {w0:World}
def pick {α:Type} (f:Nat→List α):Nat→List α
 | 0=>[]
 | n+1=>pick f n++f n
theorem OJ {α:Type} {f:Nat→List α} (h: ∀i,(f i).length≤1): ∀n,(pick f n).length≤n
 | 0=>Nat.le_refl _
 | n+1=>by have:=OJ h n;have:=h n;simp only [pick,List.length_append];omega
def DB (s g:Int):Int:=if (0≤s∧s≤7)∧1≤g∧g≤999 then s+8*g else -1
def AD (l:List A8) (id:Int):Int:=if id<8∨l.length≠8 then -1 else if (ob l (id % 8).toNat).live=true∧(ob l (id % 8).toNat).gen=id/8 then id % 8 else -1
theorem HB {n lo hi:Int} {K:J2} (h:K [.bool (decide (lo≤n∧n≤hi))] []):cl2 ⟨Tryz.prog,w0⟩ 94 B9.sg [I n,I lo,I hi] [] K:=by
 refine B9.cl2 ?_
 unfold B9.txt
 repeat' (first | refine BM ?_ | refine CL (by first | with_reducible assumption | omega) rfl ?_ | refine CJ (by first | with_reducible assumption | omega) rfl ?_ | refine FE ?_ | refine JR (fun _=> ?_) (fun _=> ?_))
 ·have e:decide (lo≤n∧n≤hi)=decide (n≤hi):=by rw [decide_eq_decide];omega
  rw [e] at h;exact h
 ·have e:decide (lo≤n∧n≤hi)=false:=decide_eq_false (by omega)
  rw [e] at h;exact h
theorem DU {n lo hi:Int} {K:J2} (h:K [.bool (decide (lo≤n∧n≤hi))] []):cl2 ⟨Tryz.prog,w0⟩ 54 BP.sg [I n,I lo,I hi] [] K:=by
 refine BP.cl2 ?_
 unfold BP.txt
 repeat' (first | refine BM ?_ | refine CL (by first | with_reducible assumption | omega) rfl ?_ | refine CJ (by first | with_reducible assumption | omega) rfl ?_ | refine FE ?_ | refine JR (fun _=> ?_) (fun _=> ?_))
 ·have e:decide (lo≤n∧n≤hi)=decide (n≤hi):=by rw [decide_eq_decide];omega
  rw [e] at h;exact h
 ·have e:decide (lo≤n∧n≤hi)=false:=decide_eq_false (by omega)
  rw [e] at h;exact h
theorem NJ {s g:Int} {K:J2} (h:K [I (DB s g)] []):cl2 ⟨Tryz.prog,w0⟩ 168 GA.sg [I s,I g] [] K:=by
 refine GA.cl2 ?_
 unfold GA.txt
 repeat' (first | refine HB ?_ | refine M4 ⟨by omega,by omega⟩ ?_ | refine BM ?_ | refine JL (by first | with_reducible assumption | omega) ?_ | refine F8 (by first | with_reducible assumption | omega) ?_ | refine CL (by first | with_reducible assumption | omega) rfl ?_ | refine CJ (by first | with_reducible assumption | omega) rfl ?_ | refine BS ?_ | refine CF ?_ | refine BX ⟨by omega,by omega⟩ ?_ | refine AH (fun _=> ?_) (fun _=> ?_) | refine HC (fun _=> ?_) (fun _=> ?_))
 ·rw [DB,if_neg (by omega)] at h;exact h
 ·rw [DB,if_pos (by omega)] at h;exact h
 ·rw [DB,if_neg (by omega)] at h;exact h
theorem NC {s g:Int} {K:J2} (h:K [I (DB s g)] []):cl2 ⟨Tryz.prog,w0⟩ 58 GB.sg [I s,I g] [] K:=by
 refine GB.cl2 ?_
 unfold GB.txt
 repeat' (first | refine DU ?_ | refine M4 ⟨by omega,by omega⟩ ?_ | refine BM ?_ | refine JL (by first | with_reducible assumption | omega) ?_ | refine F8 (by first | with_reducible assumption | omega) ?_ | refine CL (by first | with_reducible assumption | omega) rfl ?_ | refine CJ (by first | with_reducible assumption | omega) rfl ?_ | refine BS ?_ | refine CF ?_ | refine BX ⟨by omega,by omega⟩ ?_ | refine AH (fun _=> ?_) (fun _=> ?_) | refine HC (fun _=> ?_) (fun _=> ?_))
 ·rw [DB,if_neg (by omega)] at h;exact h
 ·rw [DB,if_pos (by omega)] at h;exact h
 ·rw [DB,if_neg (by omega)] at h;exact h
theorem QH {l:List A8} {id:Int} (h:id<8∨l.length≠8):AD l id= -1:=if_pos h
theorem Q8 {l:List A8} {id:Int} (h1:8≤id) (h2:l.length=8) (hl:(id % 8).toNat<l.length) (h3:(ob l (id % 8).toNat).live=true) (h4:(ob l (id % 8).toNat).gen=id/8):AD l id=id % 8:=by
 rw [AD,if_neg (by omega),if_pos ⟨h3,h4⟩]
theorem RA {l:List A8} {id:Int} (hl:(id % 8).toNat<l.length) (h:(ob l (id % 8).toNat).live=false∨(ob l (id % 8).toNat).gen≠id/8):AD l id= -1:=by
 rw [AD]
 split
 ·rfl
 ·rw [if_neg]
  rintro ⟨h1,h2⟩
  rcases h with h | h
  ·rw [h] at h1;cases h1
  ·exact h h2
theorem C6 {a:List A8} {b c d:List T} {id:Int} {K:J2} (hid:F64 id) (hl:(a.length:Int)<2^62) (h:K [I (AD a id)] []):cl2 ⟨Tryz.prog,w0⟩ 147 BY.sg [I id] [tR tO a,b,c,d] K:=by
 obtain ⟨i1,i2⟩:=hid
 refine BY.cl2 ?_
 unfold BY.txt
 simp only [AM,AT,AL,AK,AN,AE,AI,AV,AU,AS,AP,AQ,AO,AR,BD,BE,BH,BG,BJ,BL,BF,AZ,A6,A1,AY,A5,A4]
 repeat' (first | refine BM ?_ | refine R7 (by with_reducible assumption) ?_ | refine jN (by with_reducible assumption) ?_ | refine rE (by with_reducible assumption) rfl ?_ | refine vH (by with_reducible assumption) rfl ?_ | refine CL (by first | with_reducible assumption | omega) rfl ?_ | refine CJ (by first | with_reducible assumption | omega) rfl ?_ | refine BS ?_ | refine AJ ?_ | refine B2 ?_ | refine J7 (by omega) (by omega) ?_ | refine N6 (by omega) ⟨by omega,by omega⟩ (by omega) ?_ | refine UE (by omega) (by omega) ?_ | refine RI (by omega) ?_ | refine AH (fun _=> ?_) (fun _=> ?_) | refine HC (fun _=> ?_) (fun _=> ?_) | refine qU (fun _=> ?_) (fun _=> ?_) | refine BN ?_)
 ·rw [QH (by omega)] at h;exact h
 ·rw [RA (by omega) (.inr (by assumption))] at h;exact h
 ·rename_i e1 e2
  rw [Q8 (by omega) (by omega) (by omega) (by simpa using e1) (by simpa using e2)] at h;exact h
 ·rename_i e1
  rw [RA (by omega) (.inl (by simpa using e1))] at h;exact h
 ·rw [QH (by omega)] at h;exact h
theorem C4 {a:List A8} {b c d:List T} {id:Int} {K:J2} (hid:F64 id) (hl:(a.length:Int)<2^62) (h:K [I (AD a id)] []):cl2 ⟨Tryz.prog,w0⟩ 55 B7.sg [I id] [tR tO a,b,c,d] K:=by
 obtain ⟨i1,i2⟩:=hid
 refine B7.cl2 ?_
 unfold B7.txt
 simp only [AM,AT,AL,AK,AN,AE,AI,AV,AU,AS,AP,AQ,AO,AR,BD,BE,BH,BG,BJ,BL,BF,AZ,A6,A1,AY,A5,A4]
 repeat' (first | refine BM ?_ | refine R7 (by with_reducible assumption) ?_ | refine jN (by with_reducible assumption) ?_ | refine rE (by with_reducible assumption) rfl ?_ | refine vH (by with_reducible assumption) rfl ?_ | refine CL (by first | with_reducible assumption | omega) rfl ?_ | refine CJ (by first | with_reducible assumption | omega) rfl ?_ | refine BS ?_ | refine AJ ?_ | refine B2 ?_ | refine J7 (by omega) (by omega) ?_ | refine N6 (by omega) ⟨by omega,by omega⟩ (by omega) ?_ | refine UE (by omega) (by omega) ?_ | refine KM (by omega) (by decide) rfl ?_ | refine N8 (by omega) rfl ?_ | refine AH (fun _=> ?_) (fun _=> ?_) | refine HC (fun _=> ?_) (fun _=> ?_) | refine qU (fun _=> ?_) (fun _=> ?_) | refine BN ?_)
 ·rw [QH (by omega)] at h;exact h
 ·rw [RA (by omega) (.inr (by assumption))] at h;exact h
 ·rename_i e1 e2
  rw [Q8 (by omega) (by omega) (by omega) (by simpa using e1) (by simpa using e2)] at h;exact h
 ·rename_i e1
  rw [RA (by omega) (.inl (by simpa using e1))] at h;exact h
 ·rw [QH (by omega)] at h;exact h
end Go.Proofs.YtnhicpkhkaihoaaGreat.P
